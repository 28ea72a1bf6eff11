/-
 Rings: plain, walked.
-/
import Derived.Test.YtjijhpflkkicaaaOD
import Derived.Test.YtjijhpflkkicaaaWn
import Derived.Test.YtjijhpflkkicaaaMix5
import Derived.Test.YtjijhpflkkicaaaObj
import Derived.ArgAppend
set_option linter.unusedVariables false
set_option linter.unusedSimpArgs false
namespace Go.Mem
open Go Go.RowKit
section
variable {α : Type} {R : Rec α} {w w0 : World} {L : List Thing} {xs : List α} {g n cap : Nat}
theorem WOwn.inCap (h : WOwn R w (.slice (some ⟨g, 0, none⟩) n cap) xs) : xs.length ≤ cap ∧ cap ≤ maxLen ∧ g < w.heap.size ∧ (∀ j, j < cap * R.m → (w.cell? ⟨g, j, none⟩).isSome = true) ∧ (∀ j, w.frozen? ⟨g, j, none⟩ = false) ∧ ∀ j, j < xs.length * R.m → w.cell? ⟨g, j, none⟩ = (R.flat xs)[j]? := by
 rcases h with ⟨e, _⟩ | ⟨g', off', cap', e, h1, h2, hg, h3, h4, h5⟩
 ·cases e
 ·injection e with e1 e2 e3
  injection e1 with e1
  injection e1 with e1 e4 _
  subst e1; subst e2; subst e3; subst e4
  refine ⟨h1, h2, hg, fun j hj => ?_, h4, fun j hj => ?_⟩
  ·have := h3 j hj
   rwa [Nat.zero_add] at this
  ·have := h5 j hj
   rwa [Nat.zero_add] at this
theorem cell_set1 (w : World) (g o j : Nat) (u : Value) (h : (w.cell? ⟨g, o, none⟩).isSome = true) : (w.setCell ⟨g, o, none⟩ u).cell? ⟨g, j, none⟩ = if j = o then some u else w.cell? ⟨g, j, none⟩ := by
 by_cases e : j = o
 ·subst e
  rw [if_pos rfl]
  have := World.cell?_setCells_in g [u] j w (fun q hq => by
   have : q = 0 := by simpa using hq
   subst this; exact h) 0 (by simp)
  exact this
 ·rw [if_neg e]
  have := World.cell?_setCells_out g [u] o w ⟨g, j, none⟩ (fun _ _ => by simp; omega)
  exact this
theorem WOwn.setField (h : WOwn R w (.slice (some ⟨g, 0, none⟩) n cap) xs) (k : Nat) (hk : k < xs.length) (o : Nat) (ho : o < R.m) (y : α) (u : Value) (hy : R.cells y = (R.cells xs[k]).set o u) :
  WOwn R (w.setCell ⟨g, k * R.m + o, none⟩ u) (.slice (some ⟨g, 0, none⟩) n cap) (xs.set k y) := by
 obtain ⟨h1, h2, hg, h3, h4, h5⟩ := h.inCap
 have hn : n = xs.length := by
  rcases h with ⟨e, _⟩ | ⟨_, _, _, e, _⟩
  ·cases e
  ·injection e
 have hkm : k * R.m + R.m ≤ xs.length * R.m := by
  have : (k + 1) * R.m ≤ xs.length * R.m := Nat.mul_le_mul_right _ hk
  rwa [Nat.add_mul, Nat.one_mul] at this
 have hcm : xs.length * R.m ≤ cap * R.m := Nat.mul_le_mul_right _ h1
 have hs1 := h3 (k * R.m + o) (by omega)
 refine .inr ⟨g, 0, cap, by rw [List.length_set, hn], by rw [List.length_set]; exact h1, h2, Nat.lt_of_lt_of_le hg (Fr.set1 w g _ u).size, fun j hj => ?_, fun j => ?_, fun j hj => ?_⟩
 ·rw [Nat.zero_add, cell_set1 _ _ _ _ _ hs1]
  split
  ·rfl
  ·exact h3 j hj
 ·have := World.frozen?_setCells g [u] (k * R.m + o) w ⟨g, j, none⟩
  have e : w.setCells g (k * R.m + o) [u] = w.setCell ⟨g, k * R.m + o, none⟩ u := rfl
  rw [e] at this
  rw [this]; exact h4 j
 ·rw [List.length_set] at hj
  rw [Nat.zero_add, cell_set1 _ _ _ _ _ hs1, R.flat_set xs k hk o y u ho hy, List.getElem?_set]
  by_cases e : j = k * R.m + o
  ·rw [if_pos e, if_pos e.symm, if_pos (by rw [R.flat_length]; omega)]
  ·rw [if_neg e, if_neg (fun q => e q.symm)]; exact h5 j hj
theorem Sep.setRowW (h : Sep w0 w L) (i : Nat) (hi : L[i]? = some (winT R (.slice (some ⟨g, 0, none⟩) n cap) xs)) (k : Nat) (hk : k < xs.length) (o : Nat) (ho : o < R.m) (y : α) (u : Value) (hy : R.cells y = (R.cells xs[k]).set o u) :
  Sep w0 (w.setCell ⟨g, k * R.m + o, none⟩ u) (L.set i (winT R (.slice (some ⟨g, 0, none⟩) n cap) (xs.set k y))) :=
 h.turn i hi fun S hS => by
  obtain ⟨rfl, hS⟩ := hS
  exact ⟨_, ⟨rfl, hS.setField k hk o ho y u hy⟩, Fr.setCell _ _ _ rfl, fun j hj => .inl hj⟩
/-- 'append(s[:c], x)' where there is room, of records. -/
theorem run_appRoomW {P : Program} (t ty e : TypeId) (i : TypeInfo) (ht : P.underlying t = some (.slice e)) (hi : P.info? e = some i) (hsize : i.size = R.m) (hs : Sep w0 w L) (j : Nat) (hj : L[j]? = some (winT R (.slice (some ⟨g, 0, none⟩) n cap) xs)) (c : Nat) (hc : c < xs.length) (q : α) (B m' : Nat) (cs : Array Value) (hcs : cs = (R.cells q).toArray) (hB : w.heap[B]? = some (.cells cs e (0, 0))) :
  ∃ w', (Builtin.append_ #[t, t] ty #[.slice (some ⟨g, 0, none⟩) c cap, .slice (some ⟨B, 0, none⟩) 1 m']).run P w = .ok (.slice (some ⟨g, 0, none⟩) (c + 1) cap) w' ∧ Sep w0 w' (L.set j (winT R (.slice (some ⟨g, 0, none⟩) n cap) (xs.set c q))) := by
 subst hcs
 have hw := hs.win j hj
 obtain ⟨h1, h2, hg, h3, h4, h5⟩ := hw.inCap
 have hqc : (R.cells q).length = 1 * R.m := by rw [R.len, Nat.one_mul]
 have hnews : ∀ j u, (R.cells q)[j]? = some u → w.cell? ((⟨B, 0, none⟩ : Addr).add j) = some u := by
  intro j u hj
  have hadd : (⟨B, 0, none⟩ : Addr).add j = ⟨B, j, none⟩ := by unfold Addr.add; split <;> simp_all
  rw [hadd, cell_of hB]
  simpa using hj
 have hcm : (c + 1) * R.m ≤ cap * R.m := Nat.mul_le_mul_right _ (by omega)
 rw [Nat.add_mul, Nat.one_mul] at hcm
 have hr := run_append_room_cells (P := P) w t ty e i ht hi g 0 c cap ⟨B, 0, none⟩ 1 m' (R.cells q) (by rw [hsize]; exact hqc) hnews (R.one q) (by omega)
  (fun j hj => by rw [R.len] at hj; rw [hsize, Nat.zero_add]; exact h3 _ (by omega)) (fun j _ => h4 _)
 rw [hsize] at hr
 exact ⟨_, hr, hs.setRecW j hj c hc q⟩
end
section
variable {w w0 : World} {L : List Thing} {g n cap : Nat} {zs : List Int}
/-- .. and of numbers. -/
theorem run_appRoomI {P : Program} (t ty e : TypeId) (i : TypeInfo) (ht : P.underlying t = some (.slice e)) (hi : P.info? e = some i) (hsize : i.size = 1) {k : IntKind} (hs : Sep w0 w L) (j : Nat) (hj : L[j]? = some (intsT k e (.slice (some ⟨g, 0, none⟩) n cap) zs)) (c : Nat) (hc : c < zs.length) (q : Int) (B m' : Nat) (hB : w.heap[B]? = some (.cells #[.int k q] e (0, 0))) :
  ∃ w', (Builtin.append_ #[t, t] ty #[.slice (some ⟨g, 0, none⟩) c cap, .slice (some ⟨B, 0, none⟩) 1 m']).run P w = .ok (.slice (some ⟨g, 0, none⟩) (c + 1) cap) w' ∧ Sep w0 w' (L.set j (intsT k e (.slice (some ⟨g, 0, none⟩) n cap) (zs.set c q))) := by
 have hw := hs.ints j hj
 unfold IOwn at hw
 rcases hw.2 with ⟨e1, _⟩ | ⟨g', cap', cur, e1, h1, h2, h3, h4, h5, h6⟩
 ·cases e1
 ·injection e1 with e1 e2 e3
  injection e1 with e1
  injection e1 with e1
  subst e1; subst e2; subst e3
  have hnews : ∀ j u, [Value.int k q][j]? = some u → w.cell? ((⟨B, 0, none⟩ : Addr).add j) = some u := by
   intro j u hj
   have hadd : (⟨B, 0, none⟩ : Addr).add j = ⟨B, j, none⟩ := by unfold Addr.add; split <;> simp_all
   rw [hadd, cell_of hB]
   simpa using hj
  have hr := run_append_room_cells (P := P) w t ty e i ht hi g 0 c cap ⟨B, 0, none⟩ 1 m' [.int k q] (by rw [hsize]; rfl) hnews (by intro u hu; simp at hu; subst hu; rfl) (by omega)
   (fun j hj => by
    have : j = 0 := by simpa using hj
    subst this
    rw [hsize, cell_of h2, Array.getElem?_eq_getElem (by omega)]; rfl) (fun j _ => frozen_of h2 _)
  rw [hsize] at hr
  simp only [Nat.zero_add, Nat.mul_one] at hr
  have e : w.setCells g c [Value.int k q] = w.setCell ⟨g, c, none⟩ (.int k q) := rfl
  rw [e] at hr
  exact ⟨_, hr, hs.setInts j hj q⟩
end
end Go.Mem
namespace Go.OffP
open Go Go.Mem Go.MoneyP Go.BuildP
/-- A due of which so much is paid. -/
def payD (d : Du) (x : Int) : Du := { d with x := d.x - x }
def restD (O : List Du) (Out : List Int) (m : Nat) : Du := payD (O.getD m default) (Out.getD m 0)
def posP (O : List Du) (Out : List Int) (m : Nat) : Bool := decide (0 < (restD O Out m).x)
/-- Where what is left stands .. -/
def leftP (O : List Du) (Out : List Int) : List Nat := (List.range O.length).filter (posP O Out)
/-- .. and what it is. -/
def leftS (O : List Du) (Out : List Int) : List Du := (leftP O Out).map (restD O Out)
/-- So much is paid to each of a ring. -/
def payO (P : List Nat) (x : Int) (ks : List Nat) (Out : List Int) : List Int := ks.foldl (fun Z k => Z.set (P.getD k 0) (Z.getD (P.getD k 0) 0 + x)) Out
theorem payO_len (P : List Nat) (x : Int) : ∀ (ks : List Nat) (Out : List Int), (payO P x ks Out).length = Out.length
 | [], _ => rfl
 | k :: ks, Out => by
  unfold payO
  rw [List.foldl_cons]
  exact (payO_len P x ks _).trans (by simp)
theorem payO_take {P : List Nat} {x : Int} {q : List Nat} {Out : List Int} {i : Nat} (h : i < q.length) :
  payO P x (q.take (i + 1)) Out = (payO P x (q.take i) Out).set (P.getD q[i] 0) ((payO P x (q.take i) Out).getD (P.getD q[i] 0) 0 + x) := by
 unfold payO
 rw [List.take_succ_eq_append_getElem h, List.foldl_append]; rfl
theorem leftP_nodup (O : List Du) (Out : List Int) : (leftP O Out).Nodup := List.nodup_range.filter _
theorem leftP_lt {O : List Du} {Out : List Int} {m : Nat} (h : m ∈ leftP O Out) : m < O.length := by
 unfold leftP at h
 rw [List.mem_filter, List.mem_range] at h
 exact h.1
theorem getN {P : List Nat} {k : Nat} (h : k < P.length) : P.getD k 0 = P[k] := by
 rw [List.getD_eq_getElem?_getD, List.getElem?_eq_getElem h]; rfl
theorem getI {P : List Int} {k : Nat} (h : k < P.length) : P.getD k 0 = P[k] := by
 rw [List.getD_eq_getElem?_getD, List.getElem?_eq_getElem h]; rfl
theorem set_getD (Z : List Int) (m n : Nat) (x : Int) (h : m < Z.length) : (Z.set m x).getD n 0 = if m = n then x else Z.getD n 0 := by
 rw [List.getD_eq_getElem?_getD, List.getD_eq_getElem?_getD, List.getElem?_set]
 by_cases e : m = n
 ·subst e
  rw [if_pos rfl, if_pos rfl, if_pos h]; rfl
 ·rw [if_neg e, if_neg e]
/-- One due of the ring is paid. -/
theorem pay_step {O : List Du} {Out : List Int} {P : List Nat} (hnd : P.Nodup) (hl : Out.length = O.length) (hP : ∀ m ∈ P, m < O.length) {k : Nat} (hk : k < P.length) (x : Int) :
  (P.map (restD O Out)).set k (payD (restD O Out P[k]) x) = P.map (restD O (Out.set P[k] (Out.getD P[k] 0 + x))) := by
 refine List.ext_getElem (by simp) fun j h1 h2 => ?_
 have hj : j < P.length := by simpa using h2
 have hkl : P[k] < Out.length := by rw [hl]; exact hP _ (List.getElem_mem hk)
 rw [List.getElem_set, List.getElem_map, List.getElem_map]
 by_cases e : k = j
 ·subst e
  rw [if_pos rfl]
  unfold restD payD
  rw [set_getD _ _ _ _ hkl, if_pos rfl]
  simp only [Du.mk.injEq, and_self, and_true, true_and]
  omega
 ·rw [if_neg e]
  have hne : P[k] ≠ P[j] := fun h => e ((List.getElem_inj hnd).1 h)
  unfold restD
  rw [set_getD _ _ _ _ hkl, if_neg hne]
/-- A filter in place: what lies in the row at the i-th round. -/
structure FilP {α : Type} (q : α → Bool) (A Y : List α) (i : Nat) : Prop where
 len : Y.length = A.length
 i0 : i ≤ A.length
 kept : Y.take ((A.take i).filter q).length = (A.take i).filter q
 rest : Y.drop i = A.drop i
section
variable {α : Type} {q : α → Bool} {A Y : List α} {i : Nat}
theorem fil_le (q : α → Bool) (A : List α) {i : Nat} (hi : i ≤ A.length) : ((A.take i).filter q).length ≤ i := by
 have := List.length_filter_le q (A.take i)
 rw [List.length_take] at this
 omega
theorem FilP.start (q : α → Bool) (A : List α) : FilP q A A 0 := ⟨rfl, Nat.zero_le _, by simp, by simp⟩
theorem FilP.get (h : FilP q A Y i) (hi : i < A.length) : Y[i]'(by rw [h.len]; exact hi) = A[i] := by
 have h1 := congrArg (fun l => l[0]?) h.rest
 simp only [List.getElem?_drop, Nat.add_zero] at h1
 rw [List.getElem?_eq_getElem (by rw [h.len]; exact hi), List.getElem?_eq_getElem hi] at h1
 injection h1
theorem fil_skip (hi : i < A.length) (hq : q A[i] = false) : (A.take (i + 1)).filter q = (A.take i).filter q := by
 rw [List.take_succ_eq_append_getElem hi, List.filter_append]
 simp [hq]
theorem fil_put (hi : i < A.length) (hq : q A[i] = true) : (A.take (i + 1)).filter q = (A.take i).filter q ++ [A[i]] := by
 rw [List.take_succ_eq_append_getElem hi, List.filter_append]
 simp [hq]
theorem drop_next {A Y : List α} (h : Y.drop i = A.drop i) : Y.drop (i + 1) = A.drop (i + 1) := by
 have := congrArg (List.drop 1) h
 rwa [List.drop_drop, List.drop_drop] at this
theorem FilP.skip (h : FilP q A Y i) (hi : i < A.length) (hq : q A[i] = false) : FilP q A Y (i + 1) :=
 ⟨h.len, hi, by rw [fil_skip hi hq]; exact h.kept, drop_next h.rest⟩
theorem FilP.put (h : FilP q A Y i) (hi : i < A.length) (hq : q A[i] = true) : FilP q A (Y.set ((A.take i).filter q).length A[i]) (i + 1) := by
 have hc := fil_le q A h.i0
 refine ⟨by rw [List.length_set]; exact h.len, hi, ?_, ?_⟩
 ·rw [fil_put hi hq, List.length_append, List.length_singleton, List.take_succ_eq_append_getElem (by rw [List.length_set, h.len]; omega), List.take_set_of_le (Nat.le_refl _), h.kept]
  simp
 ·rw [List.drop_set_of_lt (by omega)]
  exact drop_next h.rest
theorem FilP.done (h : FilP q A Y i) (hi : i = A.length) : Y.take (A.filter q).length = A.filter q := by
 have := h.kept
 rwa [hi, List.take_length] at this
end
/-- What is filtered is what is left. -/
theorem left_next {O : List Du} {Out Out' : List Int} (h : ∀ m, m < O.length → Out.getD m 0 ≤ Out'.getD m 0) : (leftP O Out).filter (posP O Out') = leftP O Out' := by
 unfold leftP
 rw [List.filter_filter]
 refine List.filter_congr fun m hm => ?_
 have := h m (List.mem_range.1 hm)
 unfold posP restD payD
 simp only [Bool.and_eq_left_iff_imp, decide_eq_true_eq]
 omega
theorem map_fil (O : List Du) (Out : List Int) (P : List Nat) : ((P.map (restD O Out)).filter fun d => decide (0 < d.x)) = (P.filter (posP O Out)).map (restD O Out) := by
 rw [List.filter_map]
 rfl
/-- What is paid to and by a bank. -/
def flowD (a : Int) (d : Du) (x : Int) : Int := (if d.f = a then x else 0) - (if d.t = a then x else 0)
def bal (O : List Du) (Out : List Int) (a : Int) : Int := ((O.zip Out).map fun p => flowD a p.1 p.2).sum
theorem bal_set (a x : Int) : ∀ (O : List Du) (Out : List Int) (m : Nat), m < O.length → Out.length = O.length → bal O (Out.set m (Out.getD m 0 + x)) a = bal O Out a + flowD a (O.getD m default) x
 | d :: O, y :: Out, 0, _, _ => by
  unfold bal flowD
  simp only [List.getD_cons_zero, List.set_cons_zero, List.zip_cons_cons, List.map_cons, List.sum_cons]
  split <;> split <;> omega
 | d :: O, y :: Out, m + 1, h, hl => by
  have ih := bal_set a x O Out m (by simpa using h) (by simpa using hl)
  unfold bal at ih ⊢
  simp only [List.getD_cons_succ, List.set_cons_succ, List.zip_cons_cons, List.map_cons, List.sum_cons]
  rw [ih]; omega
 | [], _, m, h, _ => absurd h (Nat.not_lt_zero _)
 | d :: O, [], m, _, hl => by simp at hl
def flowK (l : List Du) (a x : Int) (k : Nat) : Int := flowD a (l.getD k default) x
theorem way_flow {l : List Du} (a x : Int) : ∀ {p : List Nat} {b c : Int}, Way l b p c → (p.map (flowK l a x)).sum = (if b = a then x else 0) - (if c = a then x else 0)
 | [], _, _, h => by cases h; simp
 | k :: ks, b, c, ⟨m, e, h⟩ => by
  rw [List.map_cons, List.sum_cons, way_flow a x h]
  unfold flowK flowD
  have h1 := e.fK
  have h2 := e.tK
  unfold fK at h1
  unfold tK at h2
  rw [h1, h2]
  omega
theorem ring_flow {l : List Du} {q : List Nat} (h : RingD l q) (a x : Int) : (q.map (flowK l a x)).sum = 0 := by
 obtain ⟨b, hw⟩ := h.way
 rw [way_flow a x hw]
 omega
theorem bal_pay {O : List Du} {P : List Nat} (hP : ∀ m ∈ P, m < O.length) (a x : Int) (l : List Du) (hl : ∀ k, k < P.length → ∃ y, l.getD k default = payD (O.getD (P.getD k 0) default) y) : ∀ (q : List Nat) (Out : List Int), Out.length = O.length → (∀ k ∈ q, k < P.length) → bal O (payO P x q Out) a = bal O Out a + (q.map (flowK l a x)).sum
 | [], Out, _, _ => by simp [payO]
 | k :: q, Out, h1, h2 => by
  have hk := h2 k List.mem_cons_self
  have hm : P.getD k 0 < O.length := by rw [getN hk]; exact hP _ (List.getElem_mem hk)
  unfold payO
  rw [List.foldl_cons]
  have ih := bal_pay hP a x l hl q (Out.set (P.getD k 0) (Out.getD (P.getD k 0) 0 + x)) (by rw [List.length_set]; exact h1) (fun j hj => h2 j (List.mem_cons_of_mem _ hj))
  unfold payO at ih
  rw [ih, bal_set a x O Out _ hm h1, List.map_cons, List.sum_cons]
  obtain ⟨y, hy⟩ := hl k hk
  have : flowK l a x k = flowD a (O.getD (P.getD k 0) default) x := by
   unfold flowK
   rw [hy]; rfl
  rw [this]; omega
end Go.OffP
namespace Go.OffP
open Go Go.Mem Go.MoneyP Go.BuildP
theorem payO_out {P : List Nat} (x : Int) {m : Nat} (hm : m ∉ P) : ∀ (q : List Nat) (Out : List Int), (∀ k ∈ q, k < P.length) → (payO P x q Out).getD m 0 = Out.getD m 0
 | [], _, _ => rfl
 | k :: q, Out, h => by
  unfold payO
  rw [List.foldl_cons]
  have ih := payO_out x hm q (Out.set (P.getD k 0) (Out.getD (P.getD k 0) 0 + x)) (fun j hj => h j (List.mem_cons_of_mem _ hj))
  unfold payO at ih
  rw [ih, List.getD_eq_getElem?_getD, List.getElem?_set, if_neg, ← List.getD_eq_getElem?_getD]
  intro e
  rw [getN (h k List.mem_cons_self)] at e
  exact hm (e ▸ List.getElem_mem _)
theorem payO_at {P : List Nat} (x : Int) (hnd : P.Nodup) {j : Nat} (hj : j < P.length) : ∀ (q : List Nat) (Out : List Int), q.Nodup → (∀ k ∈ q, k < P.length) → (∀ m ∈ P, m < Out.length) → (payO P x q Out).getD P[j] 0 = Out.getD P[j] 0 + if j ∈ q then x else 0
 | [], _, _, _, _ => by simp [payO]
 | k :: q, Out, hq, h, hl => by
  have hk := h k List.mem_cons_self
  have hkl : P[k] < Out.length := hl _ (List.getElem_mem hk)
  rw [List.nodup_cons] at hq
  unfold payO
  rw [List.foldl_cons]
  have ih := payO_at x hnd hj q (Out.set (P.getD k 0) (Out.getD (P.getD k 0) 0 + x)) hq.2 (fun j hj => h j (List.mem_cons_of_mem _ hj)) (fun m hm => by rw [List.length_set]; exact hl m hm)
  unfold payO at ih
  rw [ih, getN hk, set_getD _ _ _ _ hkl]
  by_cases e : k = j
  ·subst e
   rw [if_pos rfl, if_neg hq.1, if_pos List.mem_cons_self]; omega
  ·have hne : P[k] ≠ P[j] := fun h => e ((List.getElem_inj hnd).1 h)
   rw [if_neg hne]
   congr 1
   simp only [List.mem_cons, show ¬ j = k from fun h => e h.symm, false_or]
/-- At each round. -/
structure RgO (O : List Du) (Out : List Int) (r : Nat) : Prop where
 len : Out.length = O.length
 lo : ∀ m, m < O.length → 0 ≤ Out.getD m 0
 hi : ∀ m, m < O.length → Out.getD m 0 ≤ (O.getD m default).x
 bal : ∀ a, bal O Out a = 0
 cnt : r + (leftP O Out).length ≤ O.length
 zero : r = 0 → Out = List.replicate O.length 0
 first : 0 < r → ¬ Acyc O
theorem bal_zero (O : List Du) (a : Int) : ∀ n, bal O (List.replicate n 0) a = 0 := by
 induction O with
 | nil => intro n; simp [bal]
 | cons d O ih =>
  intro n
  cases n with
  | zero => simp [bal]
  | succ n =>
   have := ih n
   unfold bal flowD at this ⊢
   rw [List.replicate_succ, List.zip_cons_cons, List.map_cons, List.sum_cons, this]
   simp
theorem rep_getD (n m : Nat) : (List.replicate n (0 : Int)).getD m 0 = 0 := by
 rw [List.getD_eq_getElem?_getD, List.getElem?_replicate]
 split <;> rfl
theorem restD_zero (O : List Du) (n : Nat) {m : Nat} (hm : m < O.length) : restD O (List.replicate n 0) m = O[m] := by
 unfold restD payD
 rw [rep_getD, getDu hm]
 simp
theorem leftP_start {O : List Du} (h : ∀ d ∈ O, 1 ≤ d.x) : leftP O (List.replicate O.length 0) = List.range O.length := by
 unfold leftP
 rw [List.filter_eq_self]
 intro m hm
 rw [List.mem_range] at hm
 unfold posP
 rw [restD_zero O _ hm]
 have := h _ (List.getElem_mem hm)
 exact decide_eq_true (by omega)
theorem leftS_start {O : List Du} (h : ∀ d ∈ O, 1 ≤ d.x) : leftS O (List.replicate O.length 0) = O := by
 unfold leftS
 rw [leftP_start h]
 refine List.ext_getElem (by simp) fun j h1 h2 => ?_
 rw [List.getElem_map, List.getElem_range, restD_zero O _ h2]
theorem RgO.start {O : List Du} (h : ∀ d ∈ O, 1 ≤ d.x) : RgO O (List.replicate O.length 0) 0 :=
 ⟨by simp, fun m _ => by rw [rep_getD]; exact Int.le_refl _, fun m hm => by
  rw [rep_getD, getDu hm]
  have := h _ (List.getElem_mem hm)
  omega, fun a => bal_zero O a _, by rw [leftP_start h]; simp, fun _ => rfl, fun h => absurd h (Nat.lt_irrefl 0)⟩
theorem leftS_at {O : List Du} {Out : List Int} {k : Nat} (hk : k < (leftP O Out).length) : (leftS O Out).getD k default = restD O Out (leftP O Out)[k] := by
 unfold leftS
 rw [List.getD_eq_getElem?_getD, List.getElem?_map, List.getElem?_eq_getElem hk]; rfl
theorem leftS_len (O : List Du) (Out : List Int) : (leftS O Out).length = (leftP O Out).length := by unfold leftS; rw [List.length_map]
theorem leftS_may {O : List Du} {Out : List Int} (hO : ∀ d ∈ O, MayD d) (hlen : Out.length = O.length) (hlo : ∀ m, m < O.length → 0 ≤ Out.getD m 0) : ∀ d ∈ leftS O Out, MayD d := by
 intro d hd
 unfold leftS at hd
 obtain ⟨m, hm, rfl⟩ := List.mem_map.1 hd
 have hml := leftP_lt hm
 have h0 := hO _ (List.getElem_mem hml)
 unfold leftP at hm
 rw [List.mem_filter] at hm
 have hp := hm.2
 unfold posP at hp
 have hp := of_decide_eq_true hp
 have h1 := hlo m hml
 unfold restD payD at hp ⊢
 rw [getDu hml] at hp ⊢
 dsimp only at hp
 have hx1 := h0.x1
 exact ⟨h0.f0, h0.f1, h0.t0, h0.t1, h0.ne, by dsimp only; omega, by dsimp only; omega, h0.w0, h0.w1, h0.u0⟩
/-- The same ways in what is left as at first. -/
theorem leftS_way {O : List Du} {Out : List Int} : ∀ {p : List Nat} {a b : Int}, Way (leftS O Out) a p b → Way O a (p.map fun k => (leftP O Out).getD k 0) b
 | [], _, _, h => h
 | k :: ks, a, b, ⟨c, e, h⟩ => by
  have hk : k < (leftP O Out).length := by rw [← leftS_len]; exact e.lt
  refine ⟨c, ?_, leftS_way h⟩
  have hml := leftP_lt (List.getElem_mem hk)
  have hg : (leftS O Out)[k]'e.lt = restD O Out (leftP O Out)[k] := by
   rw [← getDu e.lt, leftS_at hk]
  have h1 := e.opn
  have h2 := e.fr
  have h3 := e.to
  rw [hg] at h1 h2 h3
  unfold restD payD at h1 h2 h3
  rw [getDu hml] at h1 h2 h3
  dsimp only at h1 h2 h3
  refine ⟨show (leftP O Out).getD k 0 < _ by rw [getN hk]; exact hml, ?_, ?_, ?_⟩
  ·simp only [getN hk]; exact h1
  ·simp only [getN hk]; exact h2
  ·simp only [getN hk]; exact h3
theorem RgO.step {O : List Du} {Out : List Int} {r : Nat} (h : RgO O Out r) (hO : ∀ d ∈ O, MayD d) {q : List Nat} (hq : RingD (leftS O Out) q) :
  RgO O (payO (leftP O Out) (leastR (leftS O Out) q) q Out) (r + 1) ∧ (leftP O (payO (leftP O Out) (leastR (leftS O Out) q) q Out)).length < (leftP O Out).length ∧
  (∀ m, m < O.length → Out.getD m 0 ≤ (payO (leftP O Out) (leastR (leftS O Out) q) q Out).getD m 0) := by
 have hmay := leftS_may hO h.len h.lo
 have hx := leastI_may hmay hq (Nat.le_refl q.length)
 have hmem : ∀ k ∈ q, k < (leftP O Out).length := fun k hk => by rw [← leftS_len]; exact hq.mem k hk
 have hqn : q.Nodup := (List.pairwise_map.1 hq.nd).imp fun h e => h (congrArg _ e)
 have hPl : ∀ m ∈ leftP O Out, m < Out.length := fun m hm => by rw [h.len]; exact leftP_lt hm
 have hbound : ∀ k (hk : k ∈ q), leastR (leftS O Out) q ≤ (O.getD ((leftP O Out)[k]'(hmem k hk)) default).x - Out.getD ((leftP O Out)[k]'(hmem k hk)) 0 := fun k hk => by
  obtain ⟨i, hi, rfl⟩ := List.mem_iff_getElem.1 hk
  have h1 := RingD.le (l := leftS O Out) i hi
  unfold xK at h1
  rw [leftS_at (hmem _ hk)] at h1
  exact h1
 obtain ⟨i, hi, hxi⟩ := hq.is
 have hki := hmem _ (List.getElem_mem hi)
 unfold xK at hxi
 rw [leftS_at hki] at hxi
 unfold leastR at hx hbound hxi ⊢
 generalize leastI (leftS O Out) q q.length = x at hx hbound hxi ⊢
 have hle : ∀ m, m < O.length → Out.getD m 0 ≤ (payO (leftP O Out) x q Out).getD m 0 := fun m hm => by
  by_cases hp : m ∈ leftP O Out
  ·obtain ⟨j, hj, rfl⟩ := List.mem_iff_getElem.1 hp
   rw [payO_at x (leftP_nodup O Out) hj q Out hqn hmem hPl]
   split <;> omega
  ·rw [payO_out x hp q Out hmem]; exact Int.le_refl _
 have hlt : (leftP O (payO (leftP O Out) x q Out)).length < (leftP O Out).length := by
  rw [← left_next hle]
  refine List.length_filter_lt_length_iff_exists.2 ⟨(leftP O Out)[q[i]], List.getElem_mem _, ?_⟩
  have h1 := payO_at x (leftP_nodup O Out) hki q Out hqn hmem hPl
  rw [if_pos (List.getElem_mem hi)] at h1
  unfold posP restD payD
  rw [h1]
  unfold restD payD at hxi
  dsimp only at hxi ⊢
  simp only [decide_eq_true_eq]
  omega
 refine ⟨⟨by rw [payO_len]; exact h.len, fun m hm => Int.le_trans (h.lo m hm) (hle m hm), fun m hm => ?_, fun a => ?_, by have := h.cnt; omega, fun e => by omega, fun _ ha => ?_⟩, hlt, hle⟩
 ·by_cases hp : m ∈ leftP O Out
  ·obtain ⟨j, hj, rfl⟩ := List.mem_iff_getElem.1 hp
   rw [payO_at x (leftP_nodup O Out) hj q Out hqn hmem hPl]
   have h1 := h.hi _ hm
   split
   next hjq =>
    have := hbound j hjq
    omega
   ·omega
  ·rw [payO_out x hp q Out hmem]; exact h.hi m hm
 ·rw [bal_pay (fun m hm => leftP_lt hm) a x (leftS O Out) (fun k hk => ⟨_, by rw [leftS_at hk, getN hk]; rfl⟩) q Out h.len hmem, ring_flow hq, h.bal]; rfl
 ·obtain ⟨b, hw⟩ := hq.way
  exact ha b _ (fun e => hq.ne (List.map_eq_nil_iff.1 e)) (leftS_way hw)
/-- What Rings pays. -/
structure RingsR (O : List Du) (ps : List Int) (r : Nat) : Prop where
 len : ps.length = O.length
 lo : ∀ m, m < O.length → 0 ≤ ps.getD m 0
 hi : ∀ m, m < O.length → ps.getD m 0 ≤ (O.getD m default).x
 bal : ∀ a, bal O ps a = 0
 cnt : r ≤ O.length
 none : Acyc (leftS O ps)
 zero : r = 0 ↔ Acyc O
theorem RgO.fin {O : List Du} {Out : List Int} {r : Nat} (h : RgO O Out r) (hO : ∀ d ∈ O, 1 ≤ d.x) (hn : Acyc (leftS O Out)) : RingsR O Out r :=
 ⟨h.len, h.lo, h.hi, h.bal, by have := h.cnt; omega, hn, ⟨fun e => by
  rw [h.zero e, leftS_start hO] at hn
  exact hn, fun ha => by
  rcases Nat.eq_zero_or_pos r with e | e
  ·exact e
  ·exact absurd ha (h.first e)⟩⟩
end Go.OffP
namespace Go.OffP
open Go Go.Mem Go.MoneyP Go.BuildP
/-- What lies in both rows at the i-th round: c are kept. -/
structure FilJ (O : List Du) (Out : List Int) (P : List Nat) (i c : Nat) (Y : List Du) (Z : List Nat) : Prop where
 fy : FilP (fun d : Du => decide (0 < d.x)) (P.map (restD O Out)) Y i
 fz : FilP (posP O Out) P Z i
 cnt : c = ((P.take i).filter (posP O Out)).length
section
variable {O : List Du} {Out : List Int} {P : List Nat} {i c : Nat} {Y : List Du} {Z : List Nat}
theorem fil_cnt (O : List Du) (Out : List Int) (P : List Nat) (i : Nat) : (((P.map (restD O Out)).take i).filter fun d : Du => decide (0 < d.x)).length = ((P.take i).filter (posP O Out)).length := by
 rw [← List.map_take, map_fil, List.length_map]
theorem FilJ.start (O : List Du) (Out : List Int) (P : List Nat) : FilJ O Out P 0 0 (P.map (restD O Out)) P := ⟨FilP.start _ _, FilP.start _ _, by simp⟩
theorem FilJ.ylen (h : FilJ O Out P i c Y Z) : Y.length = P.length := by rw [h.fy.len, List.length_map]
theorem FilJ.zlen (h : FilJ O Out P i c Y Z) : Z.length = P.length := h.fz.len
theorem FilJ.le (h : FilJ O Out P i c Y Z) : c ≤ i := by rw [h.cnt]; exact fil_le _ _ h.fz.i0
theorem FilJ.i0 (h : FilJ O Out P i c Y Z) : i ≤ P.length := h.fz.i0
theorem FilJ.yget (h : FilJ O Out P i c Y Z) (hi : i < P.length) : Y[i]'(by rw [h.ylen]; exact hi) = restD O Out P[i] := by
 rw [h.fy.get (by simpa using hi), List.getElem_map]
theorem FilJ.zget (h : FilJ O Out P i c Y Z) (hi : i < P.length) : Z[i]'(by rw [h.zlen]; exact hi) = P[i] := h.fz.get hi
theorem FilJ.skip (h : FilJ O Out P i c Y Z) (hi : i < P.length) (hq : ¬ 0 < (restD O Out P[i]).x) : FilJ O Out P (i + 1) c Y Z := by
 have hp : posP O Out P[i] = false := decide_eq_false hq
 refine ⟨h.fy.skip (by simpa using hi) (by rw [List.getElem_map]; exact hp), h.fz.skip hi hp, ?_⟩
 rw [fil_skip hi hp]; exact h.cnt
theorem FilJ.put (h : FilJ O Out P i c Y Z) (hi : i < P.length) (hq : 0 < (restD O Out P[i]).x) : FilJ O Out P (i + 1) (c + 1) (Y.set c (restD O Out P[i])) (Z.set c P[i]) := by
 have hp : posP O Out P[i] = true := decide_eq_true hq
 have h1 := h.fy.put (by simpa using hi) (by rw [List.getElem_map]; exact hp)
 have h2 := h.fz.put hi hp
 rw [fil_cnt, ← h.cnt, List.getElem_map] at h1
 rw [← h.cnt] at h2
 refine ⟨h1, h2, ?_⟩
 rw [fil_put hi hp, List.length_append, ← h.cnt]; rfl
theorem FilJ.done (h : FilJ O Out P P.length c Y Z) : c = (P.filter (posP O Out)).length ∧ Y.take c = (P.filter (posP O Out)).map (restD O Out) ∧ Z.take c = P.filter (posP O Out) := by
 have h1 := h.fy.done (by simp)
 have h2 := h.fz.done rfl
 have hc := h.cnt
 rw [List.take_length] at hc
 rw [map_fil, List.length_map, ← hc] at h1
 rw [← hc] at h2
 exact ⟨hc, h1, h2⟩
end
end Go.OffP
namespace Go.Proofs.Ytjijhpflkkicaaa
open Go Go.RowKit Go.Mem Go.MoneyP Go.NetP Go.BuildP Go.OffP Go.Shelf
def slcB : Value → Nat
 | .slice (some a) _ _ => a.block
 | _ => 0
/-- The region's numbers: two rows, how many are kept, what is put. -/
structure RZ where
 g : Nat
 g' : Nat
 n : Nat
 cap : Nat
 cap' : Nat
 c : Nat
 i : Nat
 Y : List Du
 Z : List Int
 d : Du
 z : Int
section
variable (R : RZ)
def FR (v : Nat → Value) : Nat → Prop
 | 0 => v 0 = .slice (some ⟨R.g, 0, none⟩) R.c R.cap
 | 1 => v 1 = R.d.val
 | 2 => ∃ b, v 2 = .slice (some ⟨b, 0, none⟩) 1 1
 | 3 => v 3 = .slice (some ⟨R.g, 0, none⟩) (R.c + 1) R.cap
 | 4 => v 4 = .slice (some ⟨R.g', 0, none⟩) R.c R.cap'
 | 5 => v 5 = .slice (some ⟨R.g', 0, none⟩) R.n R.cap'
 | 6 => v 6 = .int .i64 R.i
 | 7 => v 7 = .pointer (some ⟨R.g', R.i, none⟩)
 | 8 => v 8 = .int .i64 R.z
 | 9 => ∃ b, v 9 = .slice (some ⟨b, 0, none⟩) 1 1
 | 10 => v 10 = .slice (some ⟨R.g', 0, none⟩) (R.c + 1) R.cap'
 | _ => True
def r2 (dn : Nat → Bool) (v : Nat → Value) : List Thing := if dn 2 = true then [cellsT (slcB (v 2)) (duR.cells R.d).toArray 44] else []
def r9 (dn : Nat → Bool) (v : Nat → Value) : List Thing := if dn 9 = true then [cellsT (slcB (v 9)) #[.int .i64 R.z] 3] else []
def lsR (L0 : List Thing) (dn : Nat → Bool) (v : Nat → Value) : List Thing :=
 (r2 R dn v ++ r9 R dn v) ++ (winT duR (.slice (some ⟨R.g, 0, none⟩) R.n R.cap) (if dn 3 = true then R.Y.set R.c R.d else R.Y) ::
  intsT .i64 3 (.slice (some ⟨R.g', 0, none⟩) R.n R.cap') (if dn 10 = true then R.Z.set R.c R.z else R.Z) :: L0)
theorem FR.same {v : Nat → Value} {k i : Nat} {x : Value} (h : FR R v k) (hi : i ≠ k) : FR R (Mix3.updV v i x) k := by
 have hv : ∀ j, i ≠ j → Mix3.updV v i x j = v j := fun j hj => Mix3.updV_ne v x hj
 rcases k with _ | _ | _ | _ | _ | _ | _ | _ | _ | _ | _ | k
 all_goals first
  | (simp only [FR, Nat.zero_add, Nat.reduceAdd] at h hi ⊢; simp only [hv _ hi]; exact h)
  | trivial
structure RJ (w : World) (L0 : List Thing) (dn : Nat → Bool) (v : Nat → Value) (W : World) : Prop where
 sep : Sep w W (lsR R L0 dn v)
 fact : ∀ k, dn k = true → FR R v k
variable {R} {w W : World} {L0 : List Thing} {dn : Nat → Bool} {v : Nat → Value}
theorem RJ.facts (h : RJ R w L0 dn v W) {i : Nat} (x : Value) (hx : FR R (Mix3.updV v i x) i) : ∀ k, Mix3.more dn i k = true → FR R (Mix3.updV v i x) k := by
 intro k hk
 by_cases e : k = i
 ·subst e; exact hx
 ·have hk' : dn k = true := by simpa [Mix3.more, e] using hk
  exact (h.fact k hk').same R (fun q => e q.symm)
theorem RJ.pure (h : RJ R w L0 dn v W) {i : Nat} (hn : i ∉ [2, 3, 9, 10]) (x : Value) (hx : FR R (Mix3.updV v i x) i) : RJ R w L0 (Mix3.more dn i) (Mix3.updV v i x) W := by
 simp only [List.mem_cons, List.not_mem_nil, or_false, not_or] at hn
 obtain ⟨n2, n3, n9, n10⟩ := hn
 refine ⟨?_, h.facts x hx⟩
 have e : lsR R L0 (Mix3.more dn i) (Mix3.updV v i x) = lsR R L0 dn v := by
  unfold lsR r2 r9 Mix3.more Mix3.updV
  simp [n2, n3, n9, n10, Ne.symm n2, Ne.symm n3, Ne.symm n9, Ne.symm n10]
 rw [e]; exact h.sep
theorem RJ.lit2 (h : RJ R w L0 dn v W) (hi : dn 2 = false) : RJ R w L0 (Mix3.more dn 2) (Mix3.updV v 2 (.slice (some ⟨W.heap.size, 0, none⟩) 1 1)) (W.alloc (.cells (duR.cells R.d).toArray 44)) := by
 refine ⟨?_, h.facts _ ⟨_, by rw [Mix3.updV_same]⟩⟩
 have h2 := h.sep.newCells (duR.cells R.d).toArray 44
 have e : lsR R L0 (Mix3.more dn 2) (Mix3.updV v 2 (.slice (some ⟨W.heap.size, 0, none⟩) 1 1)) = cellsT W.heap.size (duR.cells R.d).toArray 44 :: lsR R L0 dn v := by
  unfold lsR r2 r9 Mix3.more Mix3.updV
  simp [hi, slcB]
 rw [e]; exact h2
theorem RJ.lit9 (h : RJ R w L0 dn v W) (hi : dn 9 = false) : RJ R w L0 (Mix3.more dn 9) (Mix3.updV v 9 (.slice (some ⟨W.heap.size, 0, none⟩) 1 1)) (W.alloc (.cells #[.int .i64 R.z] 3)) := by
 refine ⟨?_, h.facts _ ⟨_, by rw [Mix3.updV_same]⟩⟩
 have h2 := h.sep.newCells #[.int .i64 R.z] 3
 refine h2.perm ?_
 have e : lsR R L0 (Mix3.more dn 9) (Mix3.updV v 9 (.slice (some ⟨W.heap.size, 0, none⟩) 1 1)) = r2 R dn v ++ (cellsT W.heap.size #[.int .i64 R.z] 3 :: (lsR R L0 dn v).drop (r2 R dn v).length) := by
  unfold lsR r2 r9 Mix3.more Mix3.updV
  cases dn 2 <;> simp [hi, slcB]
 have e2 : lsR R L0 dn v = r2 R dn v ++ (lsR R L0 dn v).drop (r2 R dn v).length := by
  unfold lsR r9
  simp [hi]
 rw [e]
 conv => lhs; rw [e2]
 exact List.perm_middle.symm
theorem RJ.atW (R : RZ) (L0 : List Thing) (dn : Nat → Bool) (v : Nat → Value) : (lsR R L0 dn v)[(r2 R dn v ++ r9 R dn v).length]? = some (winT duR (.slice (some ⟨R.g, 0, none⟩) R.n R.cap) (if dn 3 = true then R.Y.set R.c R.d else R.Y)) := by
 unfold lsR
 rw [List.getElem?_append_right (Nat.le_refl _), Nat.sub_self]; rfl
theorem RJ.atI (R : RZ) (L0 : List Thing) (dn : Nat → Bool) (v : Nat → Value) : (lsR R L0 dn v)[(r2 R dn v ++ r9 R dn v).length + 1]? = some (intsT .i64 3 (.slice (some ⟨R.g', 0, none⟩) R.n R.cap') (if dn 10 = true then R.Z.set R.c R.z else R.Z)) := by
 unfold lsR
 rw [List.getElem?_append_right (Nat.le_add_right _ _), Nat.add_sub_cancel_left]; rfl
theorem RJ.at2 (h : RJ R w L0 dn v W) (d2 : dn 2 = true) {b : Nat} (hb : v 2 = .slice (some ⟨b, 0, none⟩) 1 1) : W.heap[b]? = some (.cells (duR.cells R.d).toArray 44 (0, 0)) := by
 refine h.sep.cells 0 ?_
 unfold lsR r2
 simp [d2, hb, slcB]
theorem RJ.at9 (h : RJ R w L0 dn v W) (d9 : dn 9 = true) {b : Nat} (hb : v 9 = .slice (some ⟨b, 0, none⟩) 1 1) : W.heap[b]? = some (.cells #[.int .i64 R.z] 3 (0, 0)) := by
 refine h.sep.cells (r2 R dn v).length ?_
 unfold lsR r9
 rw [List.append_assoc, List.getElem?_append_right (Nat.le_refl _), Nat.sub_self]
 simp [d9, hb, slcB]
theorem RJ.app3 (h : RJ R w L0 dn v W) (d3 : dn 3 = false) {W' : World} (hs : Sep w W' ((lsR R L0 dn v).set (r2 R dn v ++ r9 R dn v).length (winT duR (.slice (some ⟨R.g, 0, none⟩) R.n R.cap) (R.Y.set R.c R.d)))) :
  RJ R w L0 (Mix3.more dn 3) (Mix3.updV v 3 (.slice (some ⟨R.g, 0, none⟩) (R.c + 1) R.cap)) W' := by
 refine ⟨?_, h.facts _ (show Mix3.updV v 3 _ 3 = _ by rw [Mix3.updV_same])⟩
 have e : lsR R L0 (Mix3.more dn 3) (Mix3.updV v 3 (.slice (some ⟨R.g, 0, none⟩) (R.c + 1) R.cap)) = (lsR R L0 dn v).set (r2 R dn v ++ r9 R dn v).length (winT duR (.slice (some ⟨R.g, 0, none⟩) R.n R.cap) (R.Y.set R.c R.d)) := by
  unfold lsR
  rw [List.set_append_right _ _ (Nat.le_refl _), Nat.sub_self, List.set_cons_zero]
  unfold r2 r9 Mix3.more Mix3.updV
  simp
 rw [e]; exact hs
theorem RJ.app10 (h : RJ R w L0 dn v W) (d10 : dn 10 = false) {W' : World} (hs : Sep w W' ((lsR R L0 dn v).set ((r2 R dn v ++ r9 R dn v).length + 1) (intsT .i64 3 (.slice (some ⟨R.g', 0, none⟩) R.n R.cap') (R.Z.set R.c R.z)))) :
  RJ R w L0 (Mix3.more dn 10) (Mix3.updV v 10 (.slice (some ⟨R.g', 0, none⟩) (R.c + 1) R.cap')) W' := by
 refine ⟨?_, h.facts _ (show Mix3.updV v 10 _ 10 = _ by rw [Mix3.updV_same])⟩
 have e : lsR R L0 (Mix3.more dn 10) (Mix3.updV v 10 (.slice (some ⟨R.g', 0, none⟩) (R.c + 1) R.cap')) = (lsR R L0 dn v).set ((r2 R dn v ++ r9 R dn v).length + 1) (intsT .i64 3 (.slice (some ⟨R.g', 0, none⟩) R.n R.cap') (R.Z.set R.c R.z)) := by
  unfold lsR
  rw [List.set_append_right _ _ (Nat.le_add_right _ _), Nat.add_sub_cancel_left, List.set_cons_succ, List.set_cons_zero]
  unfold r2 r9 Mix3.more Mix3.updV
  simp
 rw [e]; exact hs
/-- A block that lies about the region. -/
theorem RJ.at0 (h : RJ R w L0 dn v W) (i : Nat) {b : Nat} {cs : Array Value} {E : TypeId} (hi : L0[i]? = some (cellsT b cs E)) : W.heap[b]? = some (.cells cs E (0, 0)) := by
 refine h.sep.cells ((r2 R dn v ++ r9 R dn v).length + 2 + i) ?_
 unfold lsR
 rw [List.getElem?_append_right (by omega), show (r2 R dn v ++ r9 R dn v).length + 2 + i - (r2 R dn v ++ r9 R dn v).length = i + 2 by omega]
 exact hi
end
end Go.Proofs.Ytjijhpflkkicaaa
namespace Go.Mem
open Go Go.RowKit
section
variable {P : Program} {w0 w : World} {L : List Thing}
/-- 'make([]int, 0, n)'. -/
theorem wpList_makeInts0 {ops : Array Oper} {rest : List Oper} {o : Oper} {a : Act} {Q : Exit → Act → World → Prop} (hgd : o.guard = none) (x y : Operand) (t : TypeId)
  (ho : o.op = .makeSlice t x y) (e : TypeId) (i : TypeInfo) (k : IntKind) (bytes : Nat) (ht : P.underlying t = some (.slice e)) (hi : P.info? e = some i) (hz : i.zero = some (.int k 0))
  (hsize : i.size = 1) (hby : i.bytes = bytes) (n : Nat) (kl kc : IntKind) (hx : a.eval x = .int kl 0) (hy : a.eval y = .int kc n) (hsep : Sep w0 w L)
  (h63 : n ≤ maxLen) (hbytes : bytes * n ≤ 281474976710656)
  (h : ∀ w' g, Sep w0 w' (intsT k e (.slice (some ⟨g, 0, none⟩) 0 n) [] :: L) → wpList P ops Q rest (a.put o.dst (.slice (some ⟨g, 0, none⟩) 0 n)) w') :
  wpList P ops Q (o :: rest) a w := by
 refine wpList_plain hgd fun K hK => ?_
 have hb : (i.bytes : Int) * (n : Int) ≤ 281474976710656 := by
  rw [hby]
  have : ((bytes * n : Nat) : Int) ≤ 281474976710656 := by omega
  rwa [Int.natCast_mul] at this
 have h63' := h63
 simp only [maxLen] at h63'
 have hr := run_make (P := P) w t e i (.int k 0) ht hi hz kl kc (0 : Int) (n : Int) (by omega) (by omega) hb (by omega)
 simp only [Int.toNat_natCast, Int.toNat_zero, hsize, madeCells_int] at hr
 have hs := (hsep.litInts k e (List.replicate n 0) (by simpa using h63)).shortInts 0 rfl 0 (Nat.zero_le _)
 simp only [List.length_replicate, List.take_zero, List.set_cons_zero] at hs
 unfold Oper.wp execOp
 simp only [ho, hx, hy, Sem.run_bind, Sem.run_pure, Result.andThen_ok, hr]
 exact hK _ _ (h _ _ hs)
end
end Go.Mem
namespace Go.Proofs.Ytjijhpflkkicaaa
open Go Go.RowKit Go.Mem Go.MoneyP Go.NetP Go.BuildP Go.OffP Go.Shelf
/-- What Rings answers. -/
def RingsD (n : Int) (l : List Du) (w : World) (en : Ending) (w' : World) : Prop :=
 (netsE n l ≠ 0 ∧ en = .returned (.tuple #[.slice none 0 0, .int .i64 0, .int .i64 (netsE n l)]) ∧ Below w.heap.size w w') ∨
 (netsE n l = 0 ∧ ∃ (v : Value) (ps : List Int) (r : Nat), en = .returned (.tuple #[v, .int .i64 r, .int .i64 0]) ∧ RingsR (openL l) ps r ∧ Sep w w' [intsT .i64 2 v ps])
end Go.Proofs.Ytjijhpflkkicaaa
namespace Go.Mem
open Go Go.RowKit
theorem ROwn.off0 {α : Type} {R : Rec α} {E : TypeId} {w : World} {b o n c : Nat} {xs : List α} (h : ROwn R E w (.slice (some ⟨b, o, none⟩) n c) xs) : o = 0 := by
 unfold ROwn at h
 rcases h.2 with ⟨e, _⟩ | ⟨g, cap, cur, e, _⟩
 ·cases e
 ·injection e with e1 _ _
  injection e1 with e1
  injection e1
theorem exec_app {P : Program} {ρ : Operand → Value} {w w' : World} {v a1 a2 : Value} (o : Oper) (x y : Operand) (t : TypeId) (ho : o.op = .call { callee := .builtin .append, args := #[x, y], argTypes := #[t, t] }) (h1 : ρ x = a1) (h2 : ρ y = a2)
  (hr : (Builtin.append_ #[t, t] o.type #[a1, a2]).run P w = .ok v w') : (execOp ρ o).run P w = .ok (.value v) w' := by
 unfold execOp
 simp only [ho, resolve, invoke, builtin, Sem.run_bind, Sem.run_pure, Result.andThen_ok, List.map_toArray, List.map_cons, List.map_nil, h1, h2, hr]
end Go.Mem
namespace Go.Proofs.Ytjijhpflkkicaaa
open Go Go.RowKit Go.Mem Go.MoneyP Go.NetP Go.BuildP Go.OffP Go.Shelf
theorem win_x {w W : World} {L : List Thing} {b n c : Nat} {xs : List Du} (hs : Sep w W L) (i : Nat) (hi : L[i]? = some (winT duR (.slice (some ⟨b, 0, none⟩) n c) xs)) (k : Nat) (hk : k < xs.length) : W.cell? ⟨b, k * 7 + 3, none⟩ = some (.int .i64 (xs[k]).x) ∧ ∀ a, W.frozen? ⟨b, a, none⟩ = false := by
 obtain ⟨_, _, _, _, h4, h5⟩ := (hs.win i hi).inCap
 refine ⟨?_, h4⟩
 have h1 := h5 (k * 7 + 3) (by have : (k + 1) * 7 ≤ xs.length * 7 := Nat.mul_le_mul_right _ hk; show _ < xs.length * 7; omega)
 have h2 := duR.flat_get xs k hk 3 (by decide)
 exact h1.trans (h2.trans rfl)
set_option maxRecDepth 100000 in
set_option maxHeartbeats 8000000 in
theorem rings_any (n : Int) (l : List Du) (vl : Value) (w : World) (h : RdG duR w vl l) :
  Calls Try.prog 18 #[.int .i64 n, vl] w fun en w' => RingsD n l w en w' := by
 obtain ⟨i0, hi0, hz0, hz1, hz2⟩ := info_parts Try.infoI64o
 obtain ⟨j0, hj0, hy0, hy1, hy2⟩ := info_parts Try.infoInto
 obtain ⟨k0, hk0, hk1, hk2, hk3⟩ := info_parts Try.infoDu
 have HOF := Lib.hid (of_any n l vl w h)
 go_enter Try.func18, Try.ntmps18
 go_wp2_with fail
 refine HOF.out.mono ?_
 clear HOF
 rintro en w1 (⟨hne, rfl, hb⟩ | ⟨he, rfl, hb⟩)
 ·have hs := (Sep.start w).belowStep hb
  clear hb
  have HNE := Lib.hid hne
  have d0 : (netsE n l != 0) = true := by simpa using hne
  obtain ⟨EE, hEE⟩ : ∃ EE, EE = netsE n l := ⟨_, rfl⟩
  rw [← hEE] at d0 ⊢
  have HEE := Lib.hid hEE
  clear hne hEE
  replace hs := hs.newCells Try.zeroCells65 65
  obtain ⟨B6, hB⟩ : ∃ B6, B6 = w1.heap.size := ⟨_, rfl⟩
  rw [← hB] at hs
  have HB := Lib.hid hB
  clear hB
  go_wp2_with (refine wpList_store_mid rfl 65 (.tmp 7) (.tmp 28) rfl B6 0 (tabV .i64 zero256).toArray (by rw [HB.out]; rfl) rfl ?hta ?hia (tabV_one _ _) (Stop.out ?nxa))
  case hta =>
   have := there_of (hs.cells 0 rfl)
   rw [Try.zeros65] at this ⊢
   simp only [List.size_toArray, tabV_len, zero_len, zero_len] at this ⊢
   exact this
  case hia => rw [Try.size65]; simp only [List.size_toArray, tabV_len, zero_len]
  refine Stop.mk ?_
  rw [Try.zeros65, ← HB.out]
  rw [Try.zeros65] at hs
  clear HB
  generalize World.alloc w1 _ = W1 at hs ⊢
  have hs2 := hs.tabStore (Z := zero256) 0 rfl (by simp only [zero_len, zero_len])
  (try simp only [List.set_cons_zero] at hs2)
  clear hs
  generalize World.setCells W1 _ _ _ = W2 at hs2 ⊢
  have hs := hs2
  clear hs2
  go_wp2_with fail
  (repeat rw [Exit.noGoto_ret])
  go_ret3
  exact .inl ⟨HNE.out, by rw [HEE.out]; rfl, hs.below⟩
 ·have HE := Lib.hid he
  obtain ⟨N, rfl, hgood⟩ := netsE_good he
  have hs := (Sep.start w).belowStep hb
  have hl64 := hgood.len
  have HMAY := Lib.hid (show ∀ d ∈ openL l, MayD d from fun d hd => hgood.may d (open_mem hd))
  have hol : (openL l).length ≤ 64 := by have := open_le l; omega
  clear he hgood hb
  obtain ⟨O, hO⟩ : ∃ O, O = openL l := ⟨_, rfl⟩
  obtain ⟨Z, hZ⟩ : ∃ Z, Z = tabL (openL l) := ⟨_, rfl⟩
  rw [← hZ]
  rw [← hO] at HMAY hol
  have HZL := Lib.hid (show Z.length = 256 by rw [hZ]; exact tabL_len _)
  have HO := Lib.hid hO
  clear hO hZ
  replace hs := hs.newCells Try.zeroCells65 65
  obtain ⟨B6, hB⟩ : ∃ B6, B6 = w1.heap.size := ⟨_, rfl⟩
  rw [← hB] at hs
  have HB := Lib.hid hB
  clear hB
  go_wp2_with (refine wpList_store_mid rfl 65 (.tmp 7) (.tmp 28) rfl B6 0 (tabV .i64 Z).toArray (by rw [HB.out]; rfl) rfl ?htb ?hib (tabV_one _ _) (Stop.out ?nxb))
  case htb =>
   have := there_of (hs.cells 0 rfl)
   rw [Try.zeros65] at this ⊢
   simp only [List.size_toArray, tabV_len, zero_len, HZL.out] at this ⊢
   exact this
  case hib => rw [Try.size65]; simp only [List.size_toArray, tabV_len, HZL.out]
  refine Stop.mk ?_
  rw [Try.zeros65, ← HB.out]
  rw [Try.zeros65] at hs
  clear HB
  generalize World.alloc w1 _ = W1 at hs ⊢
  have hs2 := hs.tabStore (Z := Z) 0 rfl (by simp only [zero_len, HZL.out])
  (try simp only [List.set_cons_zero] at hs2)
  clear hs
  generalize World.setCells W1 _ _ _ = W2 at hs2 ⊢
  have hs := hs2
  clear hs2
  replace hs := hs.takeN 0
  go_wp2_with fail
  refine (openo_any l vl _ (hs.rdG h) (by omega)).mono ?_
  rintro en w4 ⟨u, rfl, k2⟩
  replace hs := hs.join k2
  rw [← HO.out] at hs
  clear k2
  obtain ⟨au, cu, rfl⟩ := (hs.rdRecs 0 rfl).shape
  go_wp2_with (at_make; refine wpList_makeInts rfl (.tmp 36) (.tmp 36) 23 rfl 2 i0 .i64 8 Try.underlying23 hi0 hz0 hz1 hz2 O.length .i64 .i64 rfl rfl hs ?m1 ?m2 ?m3)
  case m1 => unfold maxLen; omega
  case m2 => omega
  case m3 =>
   intro w5 g hs3
   clear hs
   (try simp only [List.cons_append, List.nil_append, List.take_succ_cons, List.take_zero] at hs3)
   go_wp2_with (at_make; refine wpList_makeInts0 rfl (.const (.int .i64 0)) (.tmp 39) 60 rfl 3 j0 .i64 8 Try.underlying60 hj0 hy0 hy1 hy2 O.length .i64 .i64 rfl rfl hs3 ?n1 ?n2 ?n3)
   case n1 => unfold maxLen; omega
   case n2 => omega
   case n3 =>
    intro w6 gp hs4
    clear hs3
    go_wp2_with fail
    refine wp_loopM [none, none, none, none, none, none, none, none, none, none, none, some 11, some 12, none, none, none, none, none, none, none, none, none, none, none, none, none, none, none, none, none, none, none, none, none, none, none, none, none, none, none, none, none, none, some 43, some 44, some 45, some 46, some 47, some 48, some 49, some 50, none, none, none, none, none, none, none, none, none, none, none, none, none, none, none, none, none, none, none, none, none, none, none, none, none, none, none, none, none, none, none, none, none, none, none, none, none, none, none, none, none, none, none, none, none, none, none, none, none, none, none, none, none, none, none, none, none, none, none, none, none, none, none, none, none, none, none, none, none, none, none] (fun (r : Nat) (f : Nat → Value) (wr : World) => (fun (v vp : Value) => ∃ (i : Nat), v = .int .i64 i ∧ i ≤ O.length ∧ r = O.length - i ∧ Sep w wr [intsT .i64 3 vp (wayI (List.range i)), intsT .i64 2 (.slice (some ⟨g, 0, none⟩) O.length O.length) (List.replicate O.length 0), recT duR 44 (.slice au O.length cu) O]) (f 43) (f 11)) (O.length) (by kernel_rfl) ?atStart1 ?round1
    case' atStart1 => (try dsimp only [nthV])
    case' round1 =>
     intro gk f wr l hl hrel J1 K1 hJ1 hK1
     (try simp only [mask] at hl)
     generalize f 43 = u43 at hl hrel
     generalize f 11 = u11 at hl hrel
     subst hl
     (try dsimp only at hrel)
    case atStart1 => exact ⟨0, rfl, Nat.zero_le _, rfl, hs4⟩
    case round1 =>
     clear hs4
     obtain ⟨i, rfl, hi, rfl, hs⟩ := hrel
     by_cases hlt : i < O.length
     ·have hiI : (i : Int) < O.length := by omega
      have HLW := Lib.hid (show (wayI (List.range i)).length = i by rw [wayI_len, List.length_range])
      have HNX := Lib.hid (show wayI (List.range i) ++ [(i : Int)] = wayI (List.range (i + 1)) by rw [List.range_succ, wayI_snoc])
      go_wp2_with (at_builtin; refine wpList_appInt rfl (.tmp 46) (.tmp 48) 60 rfl 3 j0 _ 8 Try.underlying60 hj0 hy0 hy1 hy2 rfl _ _ .i64 i hs 0 rfl rfl (by simp [go_sem]) ?c3 ?c4 ?grow)
      case c3 => rw [HLW.out]; unfold maxLen; omega
      case c4 => rw [HLW.out]; omega
      case grow =>
       intro v' w7 hs2 hv
       clear hv
       rw [HNX.out] at hs2
       (try simp only [List.set_cons_zero] at hs2)
       clear hs
       go_wp2_with fail
       refine Round.intro (O.length - (i + 1)) ?measure2 (by kernel_rfl) (hJ1 _ _ _ ?rel2)
       case' rel2 => (try dsimp only [nthV])
       case measure2 => omega
       case rel2 => exact ⟨i + 1, by go_num, hlt, rfl, hs2⟩
     ·obtain rfl : i = O.length := by omega
      obtain ⟨aP, cP, rfl⟩ := (hs.rdInts 0 rfl).shape
      have HOF0 := Lib.hid (show ∀ b o, au = some ⟨b, o, none⟩ → o = 0 from fun b o e => by
       subst e
       exact (hs.recs 2 rfl).off0)
      replace hs := hs.winOf 2 rfl
      (try simp only [List.set_cons_zero, List.set_cons_succ] at hs)
      have hx1 : ∀ d ∈ O, 1 ≤ d.x := fun d hd => (HMAY.out d hd).x0
      have HRG := Lib.hid (RgO.start hx1)
      have hPl : (wayI (List.range O.length)).length = O.length := by rw [wayI_len, List.length_range]
      rw [hPl] at hs ⊢
      have HLP := Lib.hid (leftP_start hx1)
      have HLS := Lib.hid (leftS_start hx1)
      have HLN := Lib.hid (show (leftP O (List.replicate O.length 0)).length = O.length by rw [HLP.out, List.length_range])
      clear hPl hx1
      go_wp2_with fail
      refine wp_loopM [none, none, none, none, some 4, some 5, some 6, none, none, some 9, none, some 11, none, some 13, some 14, some 15, some 16, some 17, none, some 19, some 20, some 21, some 22, some 23, none, none, none, none, none, none, none, none, none, none, none, none, none, none, none, none, none, none, none, none, none, none, none, none, none, none, none, some 51, some 52, some 53, some 54, some 55, some 56, some 57, some 58, some 59, some 60, some 61, some 62, some 63, some 64, some 65, some 66, some 67, some 68, some 69, some 70, some 71, some 72, some 73, some 74, some 75, some 76, some 77, some 78, some 79, some 80, some 81, some 82, some 83, some 84, some 85, some 86, some 87, some 88, some 89, some 90, some 91, some 92, some 93, some 94, some 95, some 96, some 97, some 98, some 99, some 100, some 101, some 102, some 103, some 104, some 105, some 106, some 107, some 108, some 109, some 110, some 111, some 112, some 113, some 114, some 115, some 116, some 117, some 118, some 119, some 120, some 121] (fun (m : Nat) (f : Nat → Value) (wr : World) => (fun (vr vs vp : Value) => ∃ (r : Nat) (Out : List Int) (aS : Option Addr) (cS : Nat) (aP : Option Addr) (cP : Nat), vr = .int .i64 r ∧ vs = .slice aS (leftP O Out).length cS ∧ vp = .slice aP (leftP O Out).length cP ∧ m = (leftP O Out).length ∧ Hid (RgO O Out r) ∧ Hid (∀ b o, aS = some ⟨b, o, none⟩ → o = 0) ∧ Sep w wr [intsT .i64 3 (.slice aP (leftP O Out).length cP) (wayI (leftP O Out)), intsT .i64 2 (.slice (some ⟨g, 0, none⟩) O.length O.length) Out, winT duR (.slice aS (leftP O Out).length cS) (leftS O Out)]) (f 13) (f 9) (f 11)) (O.length) (by kernel_rfl) ?atStart3 ?round3
      case' atStart3 => (try dsimp only [nthV])
      case' round3 =>
       intro gk f wr l hl hrel J2 K2 hJ2 hK2
       (try simp only [mask] at hl)
       generalize f 13 = u13 at hl hrel
       generalize f 9 = u9 at hl hrel
       generalize f 11 = u11 at hl hrel
       subst hl
       (try dsimp only at hrel)
      case atStart3 => exact ⟨0, _, au, cu, aP, cP, rfl, by rw [HLN.out], by rw [HLN.out], HLN.out.symm, HRG, HOF0, by rw [HLN.out, HLP.out, HLS.out]; exact hs⟩
      case round3 =>
       clear hs HRG HLP HLS HLN HOF0
       obtain ⟨r, Out, aS, cS, aP, cP, rfl, rfl, rfl, rfl, HRG, HOF0, hs⟩ := hrel
       have HLM := Lib.hid (leftS_may HMAY.out HRG.out.len HRG.out.lo)
       have HCT := Lib.hid HRG.out.cnt
       obtain ⟨S, hS⟩ : ∃ S, S = leftS O Out := ⟨_, rfl⟩
       obtain ⟨P, hP⟩ : ∃ P, P = leftP O Out := ⟨_, rfl⟩
       have hSl : S.length = P.length := by rw [hS, hP]; exact leftS_len O Out
       rw [← hS] at hs HLM
       rw [← hP] at hs HCT ⊢
       have hPO : P.length ≤ O.length := by have := HCT.out; omega
       have hrO : r ≤ O.length := by have := HCT.out; omega
       have HALL := Lib.hid (show allB S = true by
        simp only [allB, Bool.and_eq_true, decide_eq_true_eq, List.all_eq_true]
        exact ⟨by omega, fun d hd => (mayD_iff d).2 (HLM.out d hd)⟩)
       have HSS := Lib.hid hS
       have HPP := Lib.hid hP
       have HSL := Lib.hid hSl
       clear hS hP hSl
       go_wp2_with fail
       refine (find_any S _ _ (hs.rdWin 2 rfl) HALL.out).mono ?_
       rintro en w8 (⟨aw, nw, cw, q, rfl, hq, kk⟩ | ⟨rfl, hac, hb⟩)
       ·have HQ := Lib.hid hq
        have hq16 := hq.len HLM.out
        have hqpos := hq.pos
        have hx := leastI_may HLM.out hq (Nat.le_refl q.length)
        have HQN := Lib.hid (show q.Nodup from (List.pairwise_map.1 hq.nd).imp fun h e => h (congrArg _ e))
        have HQM := Lib.hid (show ∀ k ∈ q, k < P.length from fun k hk => by rw [← HSL.out]; exact hq.mem k hk)
        replace hs := hs.join kk
        clear hq kk
        have hnw : nw = q.length := by
         have := (hs.rdInts 0 rfl).len
         rwa [wayI_len] at this
        subst hnw
        (try simp only [List.cons_append, List.nil_append] at hs)
        have HLE := Lib.hid (least_any S _ q _ _ (hs.rdWin 3 rfl) (hs.rdInts 0 rfl) HQ.out HLM.out (by rw [HSL.out]; omega))
        go_wp2_with fail
        refine HLE.out.mono ?_
        clear HLE
        rintro en w9 ⟨rfl, hb⟩
        replace hs := hs.belowStep hb
        clear hb
        obtain ⟨x, hX⟩ : ∃ x, x = leastR S q := ⟨_, rfl⟩
        unfold leastR at hX
        rw [← hX] at hx
        have hX2 : leastR S q = x := by rw [hX]; rfl
        rw [hX2]
        have HX := Lib.hid hX2
        obtain ⟨hx0, hx1⟩ := hx
        clear hX hX2
        obtain ⟨bS, oS, eS, a3⟩ := (hs.rdWin 3 rfl).at 0 (by rw [HSL.out]; have := HQM.out _ (List.getElem_mem hqpos); omega)
        clear a3
        obtain rfl := HOF0.out _ _ eS
        subst eS
        go_wp2_with fail
        refine wp_loopM [none, none, none, none, none, none, none, none, none, none, none, none, none, none, none, none, none, none, none, some 19, none, none, none, none, none, none, none, none, none, none, none, none, none, none, none, none, none, none, none, none, none, none, none, none, none, none, none, none, none, none, none, none, none, none, none, none, none, none, none, none, none, none, none, none, none, none, none, none, none, none, some 70, some 71, some 72, some 73, some 74, some 75, some 76, some 77, some 78, some 79, some 80, some 81, some 82, some 83, some 84, some 85, some 86, some 87, some 88, some 89, some 90, some 91, some 92, some 93, none, none, none, none, none, none, none, none, none, none, none, none, none, none, none, none, none, none, none, none, none, none, none, none, none, none, none, none] (fun (m : Nat) (f : Nat → Value) (wr : World) => (fun (v : Value) => ∃ (j : Nat), v = .int .i64 j ∧ j ≤ q.length ∧ m = q.length - j ∧ Sep w wr [intsT .i64 3 (.slice (some aw) q.length cw) (wayI q), intsT .i64 3 (.slice aP P.length cP) (wayI P), intsT .i64 2 (.slice (some ⟨g, 0, none⟩) O.length O.length) (payO P x (q.take j) Out), winT duR (.slice (some ⟨bS, 0, none⟩) P.length cS) (P.map (restD O (payO P x (q.take j) Out)))]) (f 70)) (q.length) (by kernel_rfl) ?atStart4 ?round4
        case' atStart4 => (try dsimp only [nthV])
        case' round4 =>
         intro gk f wr l hl hrel J3 K3 hJ3 hK3
         (try simp only [mask] at hl)
         generalize f 70 = u70 at hl hrel
         subst hl
         (try dsimp only at hrel)
        case atStart4 => exact ⟨0, rfl, Nat.zero_le _, rfl, by
         have e : P.map (restD O Out) = S := by rw [HSS.out, HPP.out]; rfl
         rw [List.take_zero, show payO P x [] Out = Out from rfl, e]; exact hs⟩
        case round4 =>
         clear hs
         obtain ⟨j, rfl, hj, rfl, hs⟩ := hrel
         by_cases hjt : j < q.length
         ·skip
          have hjI : (j : Int) < q.length := by omega
          have HLT := Lib.hid (fun m (hm : m ∈ P) => show m < O.length from leftP_lt (by rw [← HPP.out]; exact hm))
          have HND := Lib.hid (show P.Nodup by rw [HPP.out]; exact leftP_nodup O Out)
          obtain ⟨Oj, hOj⟩ : ∃ Oj, Oj = payO P x (q.take j) Out := ⟨_, rfl⟩
          have HOJ := Lib.hid hOj
          have HOL := Lib.hid (show Oj.length = O.length by rw [hOj, payO_len, HRG.out.len])
          have HTK := Lib.hid (payO_take (P := P) (x := x) (Out := Out) hjt)
          rw [← hOj] at hs HTK
          have hk := HQM.out _ (List.getElem_mem hjt)
          have HKT : q[j] ∉ q.take j := fun h => by
           obtain ⟨i, hi, e⟩ := List.mem_take_iff_getElem.1 h
           have := (List.getElem_inj HQN.out).1 e
           omega
          have HVM := Lib.hid (show Oj.getD P[q[j]] 0 = Out.getD P[q[j]] 0 by
           rw [hOj, payO_at x HND.out hk (q.take j) Out (HQN.out.sublist (List.take_sublist _ _)) (fun k hk => HQM.out k (List.mem_of_mem_take hk)) (fun m hm => by rw [HRG.out.len]; exact HLT.out m hm), if_neg HKT]
           omega)
          have hm := HLT.out _ (List.getElem_mem hk)
          have hlo := HRG.out.lo _ hm
          have hhi := HRG.out.hi _ hm
          have hxm := (HMAY.out _ (List.getElem_mem hm)).x1
          rw [← getDu hm] at hxm
          rw [getN hk] at HTK
          obtain ⟨b2, o2, e2, _, r0⟩ := (hs.rdInts 0 rfl).at j (by rw [wayI_len]; exact hjt)
          rw [wayI_at hjt] at r0
          obtain ⟨b3, o3, e3, _, p0⟩ := (hs.rdInts 1 rfl).at q[j] (by rw [wayI_len]; exact hk)
          rw [wayI_at hk] at p0
          have HST := Lib.hid (pay_step (Out := Oj) HND.out HOL.out HLT.out hk x)
          cases e2
          cases e3
          obtain ⟨g', cg', eg, _, hcR, rf⟩ := (hs.ints 2 rfl).get P[q[j]] (by rw [HOL.out]; exact hm)
          injection eg with eg q1 q2
          injection eg with eg
          injection eg with eg
          subst eg
          have v0 := hcR P[q[j]] (by rw [HOL.out]; exact hm)
          clear q1 q2 hcR
          rw [HVM.out] at v0
          have hyx : (restD O Oj P[q[j]]).x = (O.getD P[q[j]] default).x - Out.getD P[q[j]] 0 := by
           unfold restD payD
           rw [HVM.out]
          have hkS : q[j] < (P.map (restD O Oj)).length := by rw [List.length_map]; exact hk
          have HSX := Lib.hid (show ∀ (W : World) (L : List Thing), Sep w W L → L[3]? = some (winT duR (.slice (some ⟨bS, 0, none⟩) P.length cS) (P.map (restD O Oj))) → W.cell? ⟨bS, q[j] * 7 + 3, none⟩ = some (.int .i64 (restD O Oj P[q[j]]).x) ∧ ∀ a, W.frozen? ⟨bS, a, none⟩ = false from fun W L hS hL => by
           have h1 := win_x hS 3 hL q[j] hkS
           rw [List.getElem_map] at h1
           exact h1)
          have HSW := Lib.hid (show ∀ (W : World) (L : List Thing), Sep w W L → L[3]? = some (winT duR (.slice (some ⟨bS, 0, none⟩) P.length cS) (P.map (restD O Oj))) → Sep w (W.setCell ⟨bS, q[j] * 7 + 3, none⟩ (.int .i64 ((restD O Oj P[q[j]]).x - x))) (L.set 3 (winT duR (.slice (some ⟨bS, 0, none⟩) P.length cS) (P.map (restD O (Oj.set P[q[j]] (Oj.getD P[q[j]] 0 + x)))))) from fun W L hS hL => by
           have h1 := hS.setRowW 3 hL q[j] hkS 3 (by decide) (payD (restD O Oj P[q[j]]) x) (.int .i64 ((restD O Oj P[q[j]]).x - x)) (by rw [List.getElem_map]; rfl)
           rw [HST.out] at h1
           exact h1)
          clear HST HND hOj
          obtain ⟨Y, hY⟩ : ∃ Y, Y = (restD O Oj P[q[j]]).x := ⟨_, rfl⟩
          obtain ⟨V, hV⟩ : ∃ V, V = Out.getD P[q[j]] 0 := ⟨_, rfl⟩
          obtain ⟨A, hA⟩ : ∃ A, A = (O.getD P[q[j]] default).x := ⟨_, rfl⟩
          rw [HVM.out] at HSW HTK
          rw [← hY] at hyx HSX HSW
          rw [← hV] at hyx hlo hhi v0 HSW HTK
          rw [← hA] at hyx hhi hxm
          clear hY hV hA HVM
          obtain ⟨k, m, hk', hm', r1, p1, v1, HSX', HSW', HTK'⟩ : ∃ k m : Nat, k < P.length ∧ m < O.length ∧ wr.cell? ⟨b2, o2 + j, none⟩ = some (.int .i64 k) ∧ wr.cell? ⟨b3, o3 + k, none⟩ = some (.int .i64 m) ∧ wr.cell? ⟨g, m, none⟩ = some (.int .i64 V) ∧ Hid (∀ (W : World) (L : List Thing), Sep w W L → L[3]? = some (winT duR (.slice (some ⟨bS, 0, none⟩) P.length cS) (P.map (restD O Oj))) → W.cell? ⟨bS, k * 7 + 3, none⟩ = some (.int .i64 Y) ∧ ∀ a, W.frozen? ⟨bS, a, none⟩ = false) ∧
            Hid (∀ (W : World) (L : List Thing), Sep w W L → L[3]? = some (winT duR (.slice (some ⟨bS, 0, none⟩) P.length cS) (P.map (restD O Oj))) → Sep w (W.setCell ⟨bS, k * 7 + 3, none⟩ (.int .i64 (Y - x))) (L.set 3 (winT duR (.slice (some ⟨bS, 0, none⟩) P.length cS) (P.map (restD O (Oj.set m (V + x))))))) ∧
            Hid (payO P x (q.take (j + 1)) Out = Oj.set m (V + x)) := ⟨q[j], P[q[j]], hk, hm, r0, p0, v0, HSX, HSW, HTK⟩
          clear r0 p0 v0 HSX HSW HTK hkS HKT
          go_upto_region 22 with fail
          have hs2 := hs.setInts (j := m) 2 rfl (V + x)
          (try simp only [List.set_cons_zero, List.set_cons_succ] at hs2)
          clear hs r1 p1 v1 rf
          generalize World.setCell wr _ _ = W1 at hs2 ⊢
          obtain ⟨s1, sf⟩ := HSX'.out _ _ hs2 rfl
          go_wp2_with fail
          have hs3 := HSW'.out _ _ hs2 rfl
          (try simp only [List.set_cons_zero, List.set_cons_succ] at hs3)
          rw [← HTK'.out, hyx] at hs3
          refine Round.intro (q.length - (j + 1)) ?measure5 (by kernel_rfl) (hJ3 _ _ _ ?rel5)
          case' rel5 => (try dsimp only [nthV])
          case measure5 => omega
          case rel5 => exact ⟨j + 1, by go_num, hjt, rfl, hs3⟩
         ·obtain rfl : j = q.length := by omega
          rw [List.take_length] at hs
          have hst := HRG.out.step HMAY.out (q := q) (by rw [← HSS.out]; exact HQ.out)
          rw [← HSS.out, ← HPP.out, show leastR S q = x from HX.out] at hst
          obtain ⟨Ou, hOu⟩ : ∃ Ou, Ou = payO P x q Out := ⟨_, rfl⟩
          rw [← hOu] at hs hst
          have HRN := Lib.hid hst.1
          have HLT2 := Lib.hid hst.2.1
          have HFI := Lib.hid (show P.filter (posP O Ou) = leftP O Ou by
           have h1 := left_next (O := O) hst.2.2
           rwa [← HPP.out] at h1)
          have hP0 : 0 < P.length := by have := HQM.out _ (List.getElem_mem hqpos); omega
          obtain ⟨gP, cgP, eP, a3, a4, a5⟩ := (hs.ints 1 rfl).get 0 (by rw [wayI_len]; exact hP0)
          clear a3 a4 a5
          injection eP with eP q1 q2
          subst eP
          clear q1 q2 hst hOu hjt hj HQ HQN HQM HX HALL HLM HCT HOF0 hqpos hq16 hx0 hx1
          replace hs := hs.tail.perm (List.perm_append_comm (l₁ := [_, _]) (l₂ := [_]))
          simp only [List.cons_append, List.nil_append] at hs
          go_wp2_with fail
          refine wp_loopM [none, none, none, none, none, none, none, none, none, none, none, none, none, none, none, none, none, none, none, none, some 20, some 21, some 22, some 23, none, none, none, none, none, none, none, none, none, none, none, none, none, none, none, none, none, none, none, none, none, none, none, none, none, none, none, none, none, none, none, none, none, none, none, none, none, none, none, none, none, none, none, none, none, none, none, none, none, none, none, none, none, none, none, none, none, none, none, none, none, none, none, none, none, none, none, none, none, none, none, none, none, none, none, none, some 100, some 101, some 102, some 103, some 104, some 105, some 106, some 107, some 108, some 109, some 110, some 111, some 112, some 113, some 114, some 115, some 116, some 117, some 118, some 119, none, none] (fun (m : Nat) (f : Nat → Value) (wr : World) => (fun (v v1 v2 : Value) => ∃ (i c : Nat) (Y : List Du) (Z : List Nat), v = .int .i64 i ∧ v1 = .slice (some ⟨bS, 0, none⟩) c cS ∧ v2 = .slice (some ⟨gP, 0, none⟩) c cP ∧ m = P.length - i ∧ Hid (FilJ O Ou P i c Y Z) ∧ Sep w wr [winT duR (.slice (some ⟨bS, 0, none⟩) P.length cS) Y, intsT .i64 3 (.slice (some ⟨gP, 0, none⟩) P.length cP) (wayI Z), intsT .i64 2 (.slice (some ⟨g, 0, none⟩) O.length O.length) Ou]) (f 100) (f 20) (f 21)) (P.length) (by kernel_rfl) ?atStart6 ?round6
          case' atStart6 => (try dsimp only [nthV])
          case' round6 =>
           intro gk f wr l hl hrel J4 K4 hJ4 hK4
           (try simp only [mask] at hl)
           generalize f 100 = u100 at hl hrel
           generalize f 20 = u20 at hl hrel
           generalize f 21 = u21 at hl hrel
           subst hl
           (try dsimp only at hrel)
          case atStart6 => exact ⟨0, 0, _, P, rfl, rfl, rfl, rfl, Lib.hid (FilJ.start O Ou P), hs⟩
          case round6 =>
           clear hs
           obtain ⟨i, c, Y, Z, rfl, rfl, rfl, rfl, HJ, hs⟩ := hrel
           have hiP := HJ.out.i0
           have hci := HJ.out.le
           by_cases hlt : i < P.length
           ·have hiI : (i : Int) < P.length := by omega
            have hYl := HJ.out.ylen
            have hZl := HJ.out.zlen
            have HYG := Lib.hid (HJ.out.yget hlt)
            have HZG := Lib.hid (HJ.out.zget hlt)
            obtain ⟨b1, o1, e1, _, hc1⟩ := (hs.rdWin 0 rfl).at i (by rw [hYl]; exact hlt)
            cases e1
            obtain ⟨D, hD⟩ : ∃ D, D = restD O Ou P[i] := ⟨_, rfl⟩
            have HSK := Lib.hid (fun h => HJ.out.skip hlt h)
            have HPT := Lib.hid (fun h => HJ.out.put hlt h)
            rw [HYG.out, ← hD] at hc1
            rw [← hD] at HSK HPT
            clear HYG hD
            obtain ⟨id, f, t, y, we, u, hh⟩ := D
            have x0 := hc1 0 (by decide)
            have x1 := hc1 1 (by decide)
            have x2 := hc1 2 (by decide)
            have x3 := hc1 3 (by decide)
            have x4 := hc1 4 (by decide)
            have x5 := hc1 5 (by decide)
            have x6 := hc1 6 (by decide)
            simp only [duR, Nat.add_zero, Nat.zero_add, List.getElem?_cons_zero, List.getElem?_cons_succ] at x0 x1 x2 x3 x4 x5 x6
            clear hc1
            dsimp only at HSK HPT
            go_upto_region 29 with fail
            replace hs := hs.newCells #[.int .u64 id, .int .i64 f, .int .i64 t, .int .i64 y, .int .i64 we, .int .i64 u, .bool hh] 44
            obtain ⟨B, hB⟩ : ∃ B, B = wr.heap.size := ⟨_, rfl⟩
            rw [← hB] at hs ⊢
            clear hB x0 x1 x2 x3 x4 x5 x6
            generalize World.alloc wr _ = W1 at hs ⊢
            have x3 := cell_of (hs.cells 0 rfl) 3
            simp only [List.getElem?_toArray, List.getElem?_cons_zero, List.getElem?_cons_succ] at x3
            by_cases hpos : 0 < y
            ·have hJ' := HPT.out hpos
             clear HSK HPT
             go_upto_region 30 with fail
             replace hs := hs.perm (List.perm_append_comm (l₁ := [_]) (l₂ := [_, _, _]))
             simp only [List.cons_append, List.nil_append] at hs
             obtain ⟨z, hz⟩ : ∃ z : Nat, z = P[i] := ⟨_, rfl⟩
             rw [← hz] at HZG hJ'
             have HJ' := Lib.hid hJ'
             have HZI := Lib.hid (show (wayI Z)[i]'(by rw [wayI_len, hZl]; exact hlt) = (z : Int) by rw [← HZG.out]; unfold wayI; rw [List.getElem_map])
             have HZS := Lib.hid (show (wayI Z).set c (z : Int) = wayI (Z.set c z) by unfold wayI; rw [List.map_set])
             have HWL := Lib.hid (wayI_len Z)
             clear hz hJ' HZG x3
             obtain ⟨W, hW⟩ : ∃ W, W = wayI Z := ⟨_, rfl⟩
             rw [← hW] at hs HZS HWL
             replace HZI : Hid (∃ h : i < W.length, W[i] = (z : Int)) := by subst hW; exact Lib.hid ⟨_, HZI.out⟩
             clear hW
             refine Mix4.regionF (m := 11) [1, 1, 2, 2, 1, 1, 1, 1, 1, 2, 2, 0, 0] (RJ ⟨bS, gP, P.length, cS, cP, c, i, Y, W, ⟨id, f, t, y, we, u, hh⟩, z⟩ w [intsT .i64 2 (.slice (some ⟨g, 0, none⟩) O.length O.length) Ou, cellsT B #[.int .u64 id, .int .i64 f, .int .i64 t, .int .i64 y, .int .i64 we, .int .i64 u, .bool hh] 44]) (by kernel_rfl) (by kernel_rfl) ?hJ30 ?hstep30 ?hfin30
             case hJ30 => exact ⟨hs.drew, by intro k q; cases q⟩
             case hstep30 =>
              clear hs
              intro k o ho him dn v W' ρ hdn hdeps hcl hJ hev hbase hbn hcst
              have hF := hJ.fact
              rcases k with _ | _ | _ | _ | _ | _ | _ | _ | _ | _ | _ | k
              all_goals first | omega | skip
              ·obtain rfl := Option.some.inj ho
               have e0 := hbn 20 11 (by kernel_rfl) (by decide) (by show (20 : Nat) < 122; decide)
               refine outR_of (v := (.slice (some ⟨bS, 0, none⟩) c cS)) (w' := W') ?_ (hJ.pure (by decide) _ (by first | rfl | exact rfl))
               unfold execOp
               simp only [e0]
               go_simp
              ·obtain rfl := Option.some.inj ho
               have e0 := hbase 23 (by kernel_rfl) (by show (23 : Nat) < 122; decide)
               have x0 := cell_of (hJ.at0 1 rfl) 0
               have x1 := cell_of (hJ.at0 1 rfl) 1
               have x2 := cell_of (hJ.at0 1 rfl) 2
               have x3 := cell_of (hJ.at0 1 rfl) 3
               have x4 := cell_of (hJ.at0 1 rfl) 4
               have x5 := cell_of (hJ.at0 1 rfl) 5
               have x6 := cell_of (hJ.at0 1 rfl) 6
               simp only [List.getElem?_toArray, List.getElem?_cons_zero, List.getElem?_cons_succ] at x0 x1 x2 x3 x4 x5 x6
               refine outR_of (v := (.agg #[.int .u64 id, .int .i64 f, .int .i64 t, .int .i64 y, .int .i64 we, .int .i64 u, .bool hh])) (w' := W') ?_ (hJ.pure (by decide) _ (by first | rfl | exact rfl))
               unfold execOp
               simp only [e0]
               go_simp
              ·obtain rfl := Option.some.inj ho
               have d1 : dn 1 = true := hdeps { on := 1, ground := .data } (by simp) (by rfl)
               have e1 := (hev 109 1 (by kernel_rfl) d1 (by show (109 : Nat) < 122; decide)).trans (hF 1 d1)
               refine outR_of (v := .slice (some ⟨W'.heap.size, 0, none⟩) 1 1) (w' := W'.alloc (.cells (duR.cells ⟨id, f, t, y, we, u, hh⟩).toArray 44)) ?_ (hJ.lit2 hdn)
               unfold execOp
               simp only [List.map_toArray, List.map_cons, List.map_nil, e1, Du.val]
               go_simp
               rfl
              ·have d0 : dn 0 = true := hdeps { on := 0, ground := .data } (by rw [← Option.some.inj ho]; simp) (by rfl)
               have d2 : dn 2 = true := hdeps { on := 2, ground := .data } (by rw [← Option.some.inj ho]; simp) (by rfl)
               have e0 := (hev 108 0 (by kernel_rfl) d0 (by show (108 : Nat) < 122; decide)).trans (hF 0 d0)
               obtain ⟨b, hb⟩ := hF 2 d2
               have e2 := (hev 110 2 (by kernel_rfl) d2 (by show (110 : Nat) < 122; decide)).trans hb
               have h1 := RJ.atW ⟨bS, gP, P.length, cS, cP, c, i, Y, W, ⟨id, f, t, y, we, u, hh⟩, z⟩ [intsT .i64 2 (.slice (some ⟨g, 0, none⟩) O.length O.length) Ou, cellsT B #[.int .u64 id, .int .i64 f, .int .i64 t, .int .i64 y, .int .i64 we, .int .i64 u, .bool hh] 44] dn v
               rw [if_neg (by rw [hdn]; decide)] at h1
               have hcY : c < Y.length := by omega
               obtain ⟨W2, hr, hs'⟩ := run_appRoomW (P := Try.prog) 22 o.type 44 _ Try.underlying22 hk0 hk2 hJ.sep _ h1 c hcY (⟨id, f, t, y, we, u, hh⟩ : Du) b 1 _ rfl (hJ.at2 d2 hb)
               exact outR_of (exec_app o (.tmp 108) (.tmp 110) 22 (by rw [← Option.some.inj ho]) e0 e2 hr) (hJ.app3 hdn hs')
              ·obtain rfl := Option.some.inj ho
               have e0 := hbn 21 12 (by kernel_rfl) (by decide) (by show (21 : Nat) < 122; decide)
               refine outR_of (v := (.slice (some ⟨gP, 0, none⟩) c cP)) (w' := W') ?_ (hJ.pure (by decide) _ (by first | rfl | exact rfl))
               unfold execOp
               simp only [e0]
               go_simp
              ·obtain rfl := Option.some.inj ho
               have e0 := hbase 11 (by kernel_rfl) (by show (11 : Nat) < 122; decide)
               refine outR_of (v := (.slice (some ⟨gP, 0, none⟩) P.length cP)) (w' := W') ?_ (hJ.pure (by decide) _ (by first | rfl | exact rfl))
               unfold execOp
               simp only [e0]
               go_simp
              ·obtain rfl := Option.some.inj ho
               have e0 := hbase 22 (by kernel_rfl) (by show (22 : Nat) < 122; decide)
               refine outR_of (v := (.int .i64 i)) (w' := W') ?_ (hJ.pure (by decide) _ (by first | rfl | exact rfl))
               unfold execOp
               simp only [e0]
               go_simp
              ·obtain rfl := Option.some.inj ho
               have d5 : dn 5 = true := hdeps { on := 5, ground := .data } (by simp) (by rfl)
               have e5 := (hev 113 5 (by kernel_rfl) d5 (by show (113 : Nat) < 122; decide)).trans (hF 5 d5)
               have d6 : dn 6 = true := hdeps { on := 6, ground := .data } (by simp) (by rfl)
               have e6 := (hev 114 6 (by kernel_rfl) d6 (by show (114 : Nat) < 122; decide)).trans (hF 6 d6)
               refine outR_of (v := (.pointer (some ⟨gP, i, none⟩))) (w' := W') ?_ (hJ.pure (by decide) _ (by first | rfl | exact rfl))
               unfold execOp
               simp only [e5, e6]
               go_simp
              ·have d10 : dn 10 = false := by
                cases hq : dn 10
                ·rfl
                ·have h1 := hcl 10 _ rfl hq { on := 9, ground := .data } (by simp) (by rfl)
                 have h2 := hcl 9 _ rfl h1 { on := 8, ground := .data } (by simp) (by rfl)
                 rw [hdn] at h2; cases h2
               obtain rfl := Option.some.inj ho
               have d7 : dn 7 = true := hdeps { on := 7, ground := .data } (by simp) (by rfl)
               have e7 := (hev 115 7 (by kernel_rfl) d7 (by show (115 : Nat) < 122; decide)).trans (hF 7 d7)
               have h1 := RJ.atI ⟨bS, gP, P.length, cS, cP, c, i, Y, W, ⟨id, f, t, y, we, u, hh⟩, z⟩ [intsT .i64 2 (.slice (some ⟨g, 0, none⟩) O.length O.length) Ou, cellsT B #[.int .u64 id, .int .i64 f, .int .i64 t, .int .i64 y, .int .i64 we, .int .i64 u, .bool hh] 44] dn v
               rw [if_neg (by rw [d10]; decide)] at h1
               dsimp only at h1
               obtain ⟨hzi, hzv⟩ := HZI.out
               obtain ⟨b3, o3, e3, _, p0⟩ := (hJ.sep.rdInts _ h1).at i hzi
               cases e3
               rw [getI hzi, hzv, Nat.zero_add] at p0
               refine outR_of (v := (.int .i64 z)) (w' := W') ?_ (hJ.pure (by decide) _ (by first | rfl | exact rfl))
               unfold execOp
               simp only [e7]
               go_simp
              ·obtain rfl := Option.some.inj ho
               have d8 : dn 8 = true := hdeps { on := 8, ground := .data } (by simp) (by rfl)
               have e8 := (hev 116 8 (by kernel_rfl) d8 (by show (116 : Nat) < 122; decide)).trans (hF 8 d8)
               refine outR_of (v := .slice (some ⟨W'.heap.size, 0, none⟩) 1 1) (w' := W'.alloc (.cells #[.int .i64 z] 3)) ?_ (hJ.lit9 hdn)
               unfold execOp
               simp only [List.map_toArray, List.map_cons, List.map_nil, e8]
               go_simp
              ·have d4 : dn 4 = true := hdeps { on := 4, ground := .data } (by rw [← Option.some.inj ho]; simp) (by rfl)
               have d9 : dn 9 = true := hdeps { on := 9, ground := .data } (by rw [← Option.some.inj ho]; simp) (by rfl)
               have e0 := (hev 112 4 (by kernel_rfl) d4 (by show (112 : Nat) < 122; decide)).trans (hF 4 d4)
               obtain ⟨b, hb⟩ := hF 9 d9
               have e2 := (hev 117 9 (by kernel_rfl) d9 (by show (117 : Nat) < 122; decide)).trans hb
               have h1 := RJ.atI ⟨bS, gP, P.length, cS, cP, c, i, Y, W, ⟨id, f, t, y, we, u, hh⟩, z⟩ [intsT .i64 2 (.slice (some ⟨g, 0, none⟩) O.length O.length) Ou, cellsT B #[.int .u64 id, .int .i64 f, .int .i64 t, .int .i64 y, .int .i64 we, .int .i64 u, .bool hh] 44] dn v
               rw [if_neg (by rw [hdn]; decide)] at h1
               have hcW : c < W.length := by have := HWL.out; omega
               obtain ⟨W2, hr, hs'⟩ := run_appRoomI (P := Try.prog) 60 o.type 3 _ Try.underlying60 hj0 hy1 hJ.sep _ h1 c hcW (z : Int) b 1 (hJ.at9 d9 hb)
               exact outR_of (exec_app o (.tmp 112) (.tmp 117) 60 (by rw [← Option.some.inj ho]) e0 e2 hr) (hJ.app10 hdn hs')
             case hfin30 =>
              intro v W' hJ
              have hF := hJ.fact
              have hsp := hJ.sep
              clear hJ hs
              have q0 := hF 0 rfl
              have q1 := hF 1 rfl
              obtain ⟨b2, q2⟩ := hF 2 rfl
              have q3 := hF 3 rfl
              have q4 := hF 4 rfl
              have q5 := hF 5 rfl
              have q6 := hF 6 rfl
              have q7 := hF 7 rfl
              have q8 := hF 8 rfl
              obtain ⟨b9, q9⟩ := hF 9 rfl
              have q10 := hF 10 rfl
              simp only [FR] at q0 q1 q3 q4 q5 q6 q7 q8 q10
              clear hF
              replace hsp : Sep w W' ([cellsT (slcB (v 2)) (duR.cells ⟨id, f, t, y, we, u, hh⟩).toArray 44, cellsT (slcB (v 9)) #[.int .i64 z] 3] ++ [winT duR (.slice (some ⟨bS, 0, none⟩) P.length cS) (Y.set c ⟨id, f, t, y, we, u, hh⟩), intsT .i64 3 (.slice (some ⟨gP, 0, none⟩) P.length cP) (W.set c z), intsT .i64 2 (.slice (some ⟨g, 0, none⟩) O.length O.length) Ou, cellsT B #[.int .u64 id, .int .i64 f, .int .i64 t, .int .i64 y, .int .i64 we, .int .i64 u, .bool hh] 44]) := hsp
              replace hsp := (hsp.perm List.perm_append_comm).takeN 3
              rw [HZS.out] at hsp
              simp only [List.cons_append, List.nil_append, List.take_succ_cons, List.take_zero] at hsp
              refine ⟨fun _ => True, trivial, ?_⟩
              simp only [Mix3.actD, Mix3.apD, q0, q1, q2, q3, q4, q5, q6, q7, q8, q9, q10, Nat.zero_add, Nat.reduceAdd, show ∀ a b, Nat.blt a b = decide (a < b) from fun a b => by rw [Bool.eq_iff_iff, Nat.blt_eq, decide_eq_true_eq], Nat.reduceLT, decide_true, decide_false, if_true, Bool.false_eq_true, if_false, List.setIfInBounds_toArray, List.set_cons_zero, List.set_cons_succ]
              clear q0 q1 q2 q3 q4 q5 q6 q7 q8 q9 q10
              clear v
              simp only [List.zip_cons_cons, List.zip_nil_right, List.drop_succ_cons, List.drop_zero]
              iterate 2 (refine Mix.step0 fun K hK => ?_; go_simp; (try (go_bits; try go_simp)); first | ((with_reducible refine hK _ _ ?_); clear hK K) | ((try (simp only [IntWalk.iteOmega]; try go_simp)); (try go_bits); (with_reducible refine hK _ _ ?_); clear hK K))
              refine Mix.done ?_
              go_wp2_with fail
              refine Round.intro (P.length - (i + 1)) ?measure7 (by kernel_rfl) (hJ4 _ _ _ ?rel7)
              case' rel7 => (try dsimp only [nthV])
              case measure7 => omega
              case rel7 => exact ⟨i + 1, c + 1, _, _, by go_num, rfl, rfl, rfl, HJ', hsp⟩
            ·have HJ' := Lib.hid (HSK.out hpos)
             clear HSK HPT
             go_wp2_with fail
             refine Round.intro (P.length - (i + 1)) ?measure8 (by kernel_rfl) (hJ4 _ _ _ ?rel8)
             case' rel8 => (try dsimp only [nthV])
             case measure8 => omega
             case rel8 => exact ⟨i + 1, c, Y, Z, by go_num, rfl, rfl, rfl, HJ', hs.tail⟩
           ·obtain rfl : i = P.length := by omega
            obtain ⟨hc, hy, hz⟩ := HJ.out.done
            have hYl := HJ.out.ylen
            have hZl := HJ.out.zlen
            rw [HFI.out] at hc hy hz
            have h1 := (hs.winTake 0 rfl c (by omega)).shortInts 1 rfl c (by rw [wayI_len]; omega)
            rw [show (wayI Z).take c = wayI (Z.take c) by unfold wayI; rw [List.map_take], hy, hz] at h1
            simp only [List.set_cons_zero, List.set_cons_succ] at h1
            have h2 := h1.perm (List.perm_append_comm (l₁ := [_]) (l₂ := [_, _]))
            simp only [List.cons_append, List.nil_append] at h2
            obtain rfl := hc
            clear hs h1 hy hz hYl hZl HJ HFI hci
            go_wp2_with fail
            refine Round.intro ((leftP O Ou).length) ?measure9 (by kernel_rfl) (hJ2 _ _ _ ?rel9)
            case' rel9 => (try dsimp only [nthV])
            case measure9 => rw [← HPP.out]; exact HLT2.out
            case rel9 => exact ⟨r + 1, Ou, some ⟨bS, 0, none⟩, cS, some ⟨gP, 0, none⟩, cP, by go_num, rfl, rfl, rfl, HRN, Lib.hid (fun b o e => by cases e; rfl), h2⟩
       ·replace hs := hs.belowStep hb
        have HAC := Lib.hid hac
        clear hb hac
        go_wp2_with fail
        (repeat rw [Exit.noGoto_ret])
        go_ret3
        have HFIN := HRG.out.fin (fun d hd => (HMAY.out d hd).x0) (by rw [← HSS.out]; exact HAC.out)
        exact .inr ⟨HE.out, _, Out, r, rfl, by rw [← HO.out]; exact HFIN, (hs.takeN 2).tail⟩
end Go.Proofs.Ytjijhpflkkicaaa
