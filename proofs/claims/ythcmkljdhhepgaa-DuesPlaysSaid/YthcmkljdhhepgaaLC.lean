/-
  Regions that make things in any order; single operations, run.
-/
import Derived.Test.YthcmkljdhhepgaaLB
import Derived.Test.YthcmkljdhhepgaaLA
set_option linter.unusedVariables false
set_option linter.unusedSimpArgs false
namespace Go.Mem
open Go Go.RowKit
/-- Things and their blocks, in pairs. -/
structure SepZ (w0 w : World) (Z : List (Thing × (Nat → Prop))) : Prop where
  is : ∀ z ∈ Z, z.1.is w z.2
  dis : Z.Pairwise (fun a b => ∀ k, a.2 k → ¬ b.2 k)
  rng : ∀ z ∈ Z, ∀ k, z.2 k → w0.heap.size ≤ k ∧ k < w.heap.size
  below : Below w0.heap.size w0 w
theorem Sep.toZ {w0 w : World} {L : List Thing} (h : Sep w0 w L) : ∃ Z, Z.map (·.1) = L ∧ SepZ w0 w Z := by
  obtain ⟨Ss, hl, ha, p⟩ := h
  refine ⟨L.zip Ss, List.map_fst_zip (by omega), ?_, ?_, ?_, p.below⟩
  · intro z hz
    obtain ⟨i, hi, rfl⟩ := List.getElem_of_mem hz
    rw [List.length_zip] at hi
    rw [List.getElem_zip]
    exact ha i _ _ (List.getElem?_eq_getElem (by omega)) (List.getElem?_eq_getElem (by omega))
  · rw [List.pairwise_iff_getElem]
    intro i j hi hj hij
    rw [List.length_zip] at hi hj
    rw [List.getElem_zip, List.getElem_zip]
    exact p.dis i j _ _ (List.getElem?_eq_getElem (by omega)) (List.getElem?_eq_getElem (by omega)) (by omega)
  · intro z hz
    obtain ⟨i, hi, rfl⟩ := List.getElem_of_mem hz
    rw [List.length_zip] at hi
    rw [List.getElem_zip]
    exact p.rng i _ (List.getElem?_eq_getElem (by omega))
theorem SepZ.sep {w0 w : World} {Z : List (Thing × (Nat → Prop))} (h : SepZ w0 w Z) : Sep w0 w (Z.map (·.1)) := by
  refine ⟨Z.map (·.2), by simp, ?_, ?_, ?_, h.below⟩
  · intro i A S hA hS
    rw [List.getElem?_map] at hA hS
    cases hz : Z[i]? with
    | none => rw [hz] at hA; cases hA
    | some z =>
      rw [hz] at hA hS
      cases hA; cases hS
      exact h.is z (List.mem_of_getElem? hz)
  · intro i j A B hA hB hne k hk hk'
    rw [List.getElem?_map] at hA hB
    cases hz : Z[i]? with
    | none => rw [hz] at hA; cases hA
    | some z =>
      cases hy : Z[j]? with
      | none => rw [hy] at hB; cases hB
      | some y =>
        rw [hz] at hA; rw [hy] at hB
        cases hA; cases hB
        obtain ⟨hi, e1⟩ := List.getElem?_eq_some_iff.1 hz
        obtain ⟨hj, e2⟩ := List.getElem?_eq_some_iff.1 hy
        have hp := List.pairwise_iff_getElem.1 h.dis
        rcases Nat.lt_or_gt_of_ne hne with q | q
        · have := hp i j hi hj q
          rw [e1, e2] at this
          exact this k hk hk'
        · have := hp j i hj hi q
          rw [e1, e2] at this
          exact this k hk' hk
  · intro i A hA k hk
    rw [List.getElem?_map] at hA
    cases hz : Z[i]? with
    | none => rw [hz] at hA; cases hA
    | some z => rw [hz] at hA; cases hA; exact h.rng z (List.mem_of_getElem? hz) k hk
theorem lift_perm {α β : Type _} (f : α → β) {L L' : List β} (p : L.Perm L') : ∀ Z : List α, Z.map f = L → ∃ Z', Z.Perm Z' ∧ Z'.map f = L' := by
  induction p with
  | nil => intro Z hZ; exact ⟨Z, .refl _, hZ⟩
  | cons x _ ih =>
    intro Z hZ
    match Z, hZ with
    | z :: Z, hZ =>
      simp at hZ
      obtain ⟨Z', h1, h2⟩ := ih Z hZ.2
      exact ⟨z :: Z', h1.cons z, by simp [hZ.1, h2]⟩
  | swap x y l =>
    intro Z hZ
    match Z, hZ with
    | a :: b :: Z, hZ =>
      simp at hZ
      exact ⟨b :: a :: Z, .swap _ _ _, by simp [hZ]⟩
  | trans _ _ ih1 ih2 =>
    intro Z hZ
    obtain ⟨Z', h1, h2⟩ := ih1 Z hZ
    obtain ⟨Z'', h3, h4⟩ := ih2 Z' h2
    exact ⟨Z'', h1.trans h3, h4⟩
/-- The same things in another order. -/
theorem Sep.perm {w0 w : World} {L L' : List Thing} (h : Sep w0 w L) (p : L.Perm L') : Sep w0 w L' := by
  obtain ⟨Z, rfl, hz⟩ := h.toZ
  obtain ⟨Z', hp, rfl⟩ := lift_perm _ p Z rfl
  exact SepZ.sep ⟨fun z hz' => hz.is z (hp.mem_iff.2 hz'), (hp.pairwise_iff (fun {a b} q k hk hk' => q k hk' hk)).1 hz.dis, fun z hz' => hz.rng z (hp.mem_iff.2 hz'), hz.below⟩
end Go.Mem
namespace Go.Mix3
open Go Go.Mem
def updV (v : Nat → Value) (i : Nat) (x : Value) : Nat → Value := fun k => if i = k then x else v k
theorem updV_same (v : Nat → Value) (i : Nat) (x : Value) : updV v i x i = x := by simp [updV]
theorem updV_ne (v : Nat → Value) {i k : Nat} (x : Value) (h : i ≠ k) : updV v i x k = v k := by simp [updV, h]
/-- The frame behind some of the operations, with what they yielded. -/
def apD : List Oper → Nat → (Nat → Bool) → (Nat → Value) → Array Value → Array Value
  | [], _, _, _, T => T
  | o :: r, k, dn, v, T => apD r (k + 1) dn v (if dn k then (match o.dst with | some d => T.setIfInBounds d (v k) | none => T) else T)
/-- The operation that writes a slot. -/
def who : List Oper → Nat → Option Nat
  | [], _ => none
  | o :: r, p => if o.dst == some p then some 0 else (who r p).map (· + 1)
theorem who_cons (o : Oper) (r : List Oper) (p : Nat) : who (o :: r) p = if o.dst == some p then some 0 else (who r p).map (· + 1) := rfl
def dstB : List Oper → Bool
  | [] => true
  | o :: r => (match o.dst with | some d => (who r d).isNone | none => true) && dstB r
theorem apD_size : ∀ (l : List Oper) (k : Nat) (dn : Nat → Bool) (v : Nat → Value) (T : Array Value), (apD l k dn v T).size = T.size
  | [], _, _, _, _ => rfl
  | o :: r, k, dn, v, T => by
    rw [apD, apD_size r]
    split
    · split <;> simp
    · rfl
theorem apD_get : ∀ (l : List Oper), dstB l = true → ∀ (k : Nat) (dn : Nat → Bool) (v : Nat → Value) (T : Array Value) (p : Nat), p < T.size →
    (apD l k dn v T)[p]? = (match who l p with | some j => if dn (k + j) then some (v (k + j)) else T[p]? | none => T[p]?)
  | [], _, _, _, _, _, _, _ => rfl
  | o :: r, hd, k, dn, v, T, p, hp => by
    simp only [dstB, Bool.and_eq_true] at hd
    rw [apD, apD_get r hd.2 (k + 1) dn v _ p (by split; split <;> simp [hp]; exact hp), who_cons]
    by_cases e : o.dst = some p
    · have h1 := hd.1
      rw [e] at h1
      simp only [Option.isNone_iff_eq_none] at h1
      rw [h1, e]
      simp only [beq_self_eq_true, if_true, Nat.add_zero]
      by_cases hk : dn k = true
      · simp [hk, hp]
      · simp [hk]
    · have e' : (o.dst == some p) = false := by simpa using e
      rw [e']
      simp only [Bool.false_eq_true, if_false]
      have hT : (if dn k = true then (match o.dst with | some d => T.setIfInBounds d (v k) | none => T) else T)[p]? = T[p]? := by
        split
        · cases hd' : o.dst with
          | none => rfl
          | some d =>
            simp only
            rw [Array.getElem?_setIfInBounds_ne]
            intro q; rw [hd', q] at e; exact e rfl
        · rfl
      cases hw : who r p with
      | none => simp [hT]
      | some j => simp [hT, Nat.add_assoc, Nat.add_comm 1 j]
theorem who_of : ∀ (l : List Oper), dstB l = true → ∀ (i : Nat) (o : Oper) (d : Nat), l[i]? = some o → o.dst = some d → who l d = some i
  | [], _, i, o, d, h, _ => by simp at h
  | q :: r, hd, 0, o, d, h, ho => by
    simp at h; subst h
    rw [who_cons]; simp [ho]
  | q :: r, hd, i + 1, o, d, h, ho => by
    simp only [dstB, Bool.and_eq_true] at hd
    have ih := who_of r hd.2 i o d (by simpa using h) ho
    rw [who_cons]
    have : (q.dst == some d) = false := by
      rw [beq_eq_false_iff_ne]
      intro e
      have h1 := hd.1
      rw [e] at h1
      simp only [Option.isNone_iff_eq_none] at h1
      rw [h1] at ih; cases ih
    rw [this, ih]; rfl
theorem who_lt : ∀ (l : List Oper) (d j : Nat), who l d = some j → ∃ o, l[j]? = some o ∧ o.dst = some d
  | [], d, j, h => by simp [who] at h
  | q :: r, d, j, h => by
    rw [who_cons] at h
    by_cases e : q.dst = some d
    · rw [e] at h; simp at h; subst h; exact ⟨q, rfl, e⟩
    · have e' : (q.dst == some d) = false := by simpa using e
      rw [e'] at h
      simp only [Bool.false_eq_true, if_false] at h
      cases hw : who r d with
      | none => rw [hw] at h; simp at h
      | some i =>
        rw [hw] at h
        simp at h; subst h
        obtain ⟨o, h1, h2⟩ := who_lt r d i hw
        exact ⟨o, by simpa using h1, h2⟩
def actD (l : List Oper) (dn : Nat → Bool) (v : Nat → Value) (T : Array Value) (D : List Deferred) : Act := { tmps := apD l 0 dn v T, defers := D }
def more (dn : Nat → Bool) (i : Nat) : Nat → Bool := fun k => dn k || k == i
/-- One operation more. -/
theorem act_put {l : List Oper} (hd : dstB l = true) {i : Nat} {o : Oper} (ho : l[i]? = some o) {dn : Nat → Bool} (hi : dn i = false) (v : Nat → Value) (x : Value) (T : Array Value) (D : List Deferred) :
    (actD l dn v T D).put o.dst x = actD l (more dn i) (updV v i x) T D := by
  unfold actD Act.put
  cases hod : o.dst with
  | none =>
    simp only
    congr 1
    apply Array.ext_getElem?
    intro p
    by_cases hp : p < T.size
    rotate_left
    · rw [Array.getElem?_eq_none (by simp [apD_size]; omega), Array.getElem?_eq_none (by simp [apD_size]; omega)]
    rw [apD_get l hd 0 _ _ T p hp, apD_get l hd 0 _ _ T p hp]
    cases hw : who l p with
    | none => rfl
    | some j =>
      simp only [Nat.zero_add]
      have hne : i ≠ j := fun e => by
        subst e
        obtain ⟨o', h1, h2⟩ := who_lt l p i hw
        rw [ho] at h1; cases h1; rw [hod] at h2; cases h2
      have : (j == i) = false := by simp; omega
      simp [more, this, updV_ne v x hne]
  | some d =>
    simp only
    congr 1
    apply Array.ext_getElem?
    intro p
    by_cases hp : p < T.size
    rotate_left
    · rw [Array.getElem?_eq_none (by simp [apD_size]; omega), Array.getElem?_eq_none (by simp [apD_size]; omega)]
    rw [apD_get l hd 0 (more dn i) _ T p hp]
    have hwd := who_of l hd i o d ho hod
    by_cases e : d = p
    · subst e
      rw [hwd, Array.getElem?_setIfInBounds_self_of_lt (by rw [apD_size]; exact hp)]
      simp [more, updV_same]
    · rw [Array.getElem?_setIfInBounds_ne e, apD_get l hd 0 _ _ T p hp]
      cases hw : who l p with
      | none => rfl
      | some j =>
        simp only [Nat.zero_add]
        have hne : i ≠ j := fun e' => by
          subst e'
          obtain ⟨o', h1, h2⟩ := who_lt l p i hw
          rw [ho] at h1; cases h1; rw [hod] at h2; cases h2; exact e rfl
        have : (j == i) = false := by simp; omega
        simp [more, this, updV_ne v x hne]
/-- What a slot holds: what its operation yielded. -/
theorem act_eval {l : List Oper} (hd : dstB l = true) {j d : Nat} (hw : who l d = some j) {dn : Nat → Bool} (hj : dn j = true) (v : Nat → Value) {T : Array Value} (D : List Deferred) (hp : d < T.size) : (actD l dn v T D).eval (.tmp d) = v j := by
  show (apD l 0 dn v T).getD d undef = v j
  rw [Array.getD_eq_getD_getElem?, apD_get l hd 0 _ _ T d hp, hw]
  simp [hj]
theorem act_base {l : List Oper} (hd : dstB l = true) {d : Nat} (hw : who l d = none) {dn : Nat → Bool} (v : Nat → Value) {T : Array Value} (D : List Deferred) (hp : d < T.size) : (actD l dn v T D).eval (.tmp d) = T.getD d undef := by
  show (apD l 0 dn v T).getD d undef = _
  rw [Array.getD_eq_getD_getElem?, apD_get l hd 0 _ _ T d hp, hw, Array.getD_eq_getD_getElem?]
/-- The things that are made, in the order of the text. -/
def made (Th : Nat → (Nat → Value) → List Thing) (m : Nat) (dn : Nat → Bool) (v : Nat → Value) : List Thing := (List.range m).flatMap fun k => if dn k then Th k v else []
theorem made_more (Th : Nat → (Nat → Value) → List Thing) {dn : Nat → Bool} {i : Nat} (hi : dn i = false) (v v' : Nat → Value) (hv : ∀ k, dn k = true → Th k v' = Th k v) : ∀ (R : List Nat), R.Nodup →
    (R.flatMap fun k => if more dn i k then Th k v' else []).Perm ((if i ∈ R then Th i v' else []) ++ R.flatMap fun k => if dn k then Th k v else [])
  | [], _ => by simp
  | k :: R, hn => by
    have ih := made_more Th hi v v' hv R (List.nodup_cons.1 hn).2
    rw [List.flatMap_cons, List.flatMap_cons]
    by_cases e : i = k
    · subst e
      have hni : i ∉ R := (List.nodup_cons.1 hn).1
      rw [if_neg hni, List.nil_append] at ih
      have h1 : more dn i i = true := by simp [more]
      rw [if_pos h1, hi]
      simp only [Bool.false_eq_true, if_false, List.nil_append, List.mem_cons, true_or, if_true]
      exact ih.append_left _
    · have h1 : more dn i k = dn k := by
        have : (k == i) = false := by simp; omega
        simp [more, this]
      have h3 : (if dn k = true then Th k v' else []) = (if dn k = true then Th k v else []) := by
        by_cases q : dn k = true
        · rw [if_pos q, if_pos q, hv k q]
        · rw [if_neg q, if_neg q]
      rw [h1, h3, show (if i ∈ k :: R then Th i v' else []) = (if i ∈ R then Th i v' else []) by simp [e]]
      refine (ih.append_left _).trans ?_
      rw [← List.append_assoc, ← List.append_assoc]
      exact List.perm_append_comm.append_right _
theorem made_all {Th : Nat → (Nat → Value) → List Thing} {m : Nat} {dn : Nat → Bool} {v : Nat → Value} (h : ∀ k, k < m → dn k = true) : made Th m dn v = (List.range m).flatMap fun k => Th k v := by
  unfold made
  rw [List.flatMap_def, List.flatMap_def]
  congr 1
  refine List.map_congr_left fun k hk => ?_
  rw [if_pos (h k (List.mem_range.1 hk))]
theorem dn_eq {m : Nat} {dn : Nat → Bool} (h1 : ∀ k, k < m → dn k = true) (h2 : ∀ k, m ≤ k → dn k = false) : dn = fun k => Nat.blt k m := by
  funext k
  rcases Nat.lt_or_ge k m with q | q
  · rw [h1 k q]; simp [q]
  · rw [h2 k q]
    have : Nat.blt k m = false := by rw [Bool.eq_false_iff]; intro h; rw [Nat.blt_eq] at h; omega
    exact this.symm
theorem app_last (X : List Thing) (A : Thing) : (X ++ [A])[X.length]? = some A := by simp
def lowB (l : List Oper) : Bool := (List.range l.length).all fun i => match l[i]? with | some o => o.guard.isNone && o.after.all (fun e => !Region.binds .any e || Nat.blt e.on i) | none => true
def tailB (l : List Oper) (m : Nat) : Bool := (List.range l.length).all fun i => match l[i]? with | some o => Nat.blt i m || (List.range i).all (fun j => o.after.any fun e => Region.binds .any e && Nat.beq e.on j) | none => true
/-- What is said of an operation speaks of these, on which it waits, and of itself. -/
def locB (l : List Oper) (loc : List (List Nat)) (m : Nat) : Bool := (List.range m).all fun k => match l[k]? with | some o => (loc.getD k []).all (fun j => Nat.beq j k || o.after.any fun e => Region.binds .any e && Nat.beq e.on j) | none => true
def chk (l : List Oper) (m : Nat) : Bool := dstB l && lowB l && tailB l m && Nat.ble m l.length
/-- What an operation needs is done. -/
def deps (o : Oper) (dn : Nat → Bool) : Prop := ∀ e ∈ o.after, Region.binds .any e = true → dn e.on = true
section
variable {P : Program} {l : List Oper} {m : Nat} {Q : Exit → Act → World → Prop} {T : Array Value} {D : List Deferred} {w0 : World} {L0 : List Thing} {Th : Nat → (Nat → Value) → List Thing} {F : Nat → (Nat → Value) → Prop}
/-- How far it is. -/
structure Inv (l : List Oper) (m : Nat) (T : Array Value) (D : List Deferred) (w0 : World) (L0 : List Thing) (Th : Nat → (Nat → Value) → List Thing) (F : Nat → (Nat → Value) → Prop) (dn : Nat → Bool) (v : Nat → Value) (w : World) : Prop where
  sep : Sep w0 w (made Th m dn v ++ L0)
  fact : ∀ k, k < m → dn k = true → F k v
  cl : ∀ k o, l[k]? = some o → dn k = true → deps o dn
theorem low_of (h : lowB l = true) {i : Nat} {o : Oper} (ho : l[i]? = some o) : o.guard = none ∧ ∀ e ∈ o.after, Region.binds .any e = true → e.on < i := by
  unfold lowB at h
  have hi := (List.getElem?_eq_some_iff.1 ho).1
  have := List.all_eq_true.1 h i (List.mem_range.2 hi)
  rw [ho] at this
  simp only [Bool.and_eq_true, Option.isNone_iff_eq_none] at this
  refine ⟨this.1, fun e he hb => ?_⟩
  have h2 := Array.all_eq_true_iff_forall_mem.1 this.2 e he
  rw [hb] at h2
  simpa using h2
theorem tail_of (h : tailB l m = true) {i : Nat} {o : Oper} (ho : l[i]? = some o) (hm : m ≤ i) {j : Nat} (hj : j < i) : ∃ e ∈ o.after, Region.binds .any e = true ∧ e.on = j := by
  unfold tailB at h
  have hi := (List.getElem?_eq_some_iff.1 ho).1
  have := List.all_eq_true.1 h i (List.mem_range.2 hi)
  rw [ho] at this
  simp only [Bool.or_eq_true] at this
  rcases this with q | q
  · simp at q; omega
  · have h2 := List.all_eq_true.1 q j (List.mem_range.2 hj)
    obtain ⟨k, hk, hb⟩ := Array.any_eq_true.1 h2
    simp only [Bool.and_eq_true] at hb
    exact ⟨_, Array.getElem_mem hk, hb.1, Nat.eq_of_beq_eq_true hb.2⟩
/-- The last operations, one behind the other. -/
theorem tail_any (hl : lowB l = true) (ht : tailB l m = true) (kd : List Nat) : ∀ (fuel i : Nat) (listed : Array Bool) (a : Act) (w : World), i + fuel = l.length → m ≤ i → listed.size = l.length → (∀ j, j < l.length → (listed.getD j false = true ↔ j < i)) →
    Mix.wpR P l.toArray (fun _ => True) (fun a' w' => Q .normal a' w') ((l.zip kd).drop i) a w → kd.length = l.length → wpAny P .any l.toArray Q fuel listed a w
  | 0, i, listed, a, w, hn, hm, hs, hls, h, hk => by
    refine ⟨?_, ?_⟩
    · apply List.eq_nil_iff_forall_not_mem.2
      intro j hj
      obtain ⟨h1, o, ho, _⟩ := mem_ready.1 hj
      have hlt : j < l.length := by simpa using (Array.getElem?_eq_some_iff.1 ho).1
      have := (hls j hlt).2 (by omega)
      have hj' : j < listed.size := by omega
      simp [hj'] at h1 this
      rw [h1] at this; cases this
    · rw [List.drop_eq_nil_of_le (by rw [List.length_zip]; omega)] at h
      unfold Mix.wpR at h
      exact h
  | fuel + 1, i, listed, a, w, hn, hm, hs, hls, h, hk => by
    have hi : i < l.length := by omega
    have hik : i < kd.length := by omega
    have ho : l[i]? = some l[i] := List.getElem?_eq_getElem hi
    have only : ∀ j ∈ Region.ready .any l.toArray listed, j = i := fun j hj => by
      obtain ⟨h1, o, hoj, hd⟩ := mem_ready.1 hj
      have hlt : j < l.length := by simpa using (Array.getElem?_eq_some_iff.1 hoj).1
      have hj' : j < listed.size := by omega
      have hnl : listed.getD j false = false := by simpa [hj'] using h1
      have hji : ¬ j < i := fun q => by rw [(hls j hlt).2 q] at hnl; cases hnl
      rcases Nat.lt_or_ge i j with q | q
      · obtain ⟨e, he, hb, rfl⟩ := tail_of ht (show l[j]? = some o by simpa using hoj) (by omega) q
        have := (hls e.on hi).1 (hd e he hb)
        omega
      · omega
    refine ⟨fun h0 => ?_, fun j hj => ?_⟩
    · exfalso
      have : i ∈ Region.ready .any l.toArray listed := mem_ready.2 ⟨by
        have hi' : i < listed.size := by omega
        have := hls i hi
        cases hq : listed.getD i false with
        | false => simpa [hi'] using hq
        | true => have := this.1 hq; omega, l[i], by simp [hi], fun e he hb => (hls e.on (by have := (low_of hl ho).2 e he hb; omega)).2 ((low_of hl ho).2 e he hb)⟩
      rw [h0] at this; cases this
    · obtain rfl : i = j := (only j hj).symm
      rw [List.drop_eq_getElem_cons (by rw [List.length_zip]; omega), List.getElem_zip] at h
      unfold Mix.wpR at h
      refine Mix.wpOp_of_opM (C := fun _ => True) (by simp [hi]) trivial (fun a' w' _ hk' => ?_) h
      refine tail_any hl ht kd fuel (i + 1) _ a' w' (by omega) (by omega) (by simp [hs]) (fun p hp => ?_) hk' hk
      by_cases e : i = p
      · subst e
        have hi' : i < listed.size := by omega
        simp [hi']
      · have hp' : p < listed.size := by omega
        rw [Array.getD_eq_getD_getElem?, Array.getElem?_setIfInBounds_ne e, ← Array.getD_eq_getD_getElem?, hls p hp]
        omega
theorem loc_of {loc : List (List Nat)} (h : locB l loc m = true) {k : Nat} {o : Oper} (ho : l[k]? = some o) (hk : k < m) {dn : Nat → Bool} (hd : deps o dn) {j : Nat} (hj : j ∈ loc.getD k []) : j = k ∨ dn j = true := by
  unfold locB at h
  have := List.all_eq_true.1 h k (List.mem_range.2 hk)
  rw [ho] at this
  have h2 := List.all_eq_true.1 this j hj
  simp only [Bool.or_eq_true] at h2
  rcases h2 with q | q
  · exact .inl (Nat.eq_of_beq_eq_true q)
  · obtain ⟨p, hp, hb⟩ := Array.any_eq_true.1 q
    simp only [Bool.and_eq_true] at hb
    have := hd _ (Array.getElem_mem hp) hb.1
    rw [Nat.eq_of_beq_eq_true hb.2] at this
    exact .inr this
/-- The operations ahead of the last ones, in any order. -/
theorem made_any (hcd : dstB l = true) (hl : lowB l = true) (ht : tailB l m = true) (hml : m ≤ l.length) (kd : List Nat) (hkd : kd.length = l.length) (loc : List (List Nat)) (hlb : locB l loc m = true)
    (hloc : ∀ k, k < m → ∀ v v' : Nat → Value, (∀ j ∈ loc.getD k [], v j = v' j) → (F k v → F k v') ∧ Th k v = Th k v')
    (hstep : ∀ i o, l[i]? = some o → i < m → ∀ dn v W, dn i = false → deps o dn → Inv l m T D w0 L0 Th F dn v W →
      ∃ x W', (execOp (actD l dn v T D).eval o).run P W = .ok (.value x) W' ∧ Sep w0 W' (Th i (updV v i x) ++ (made Th m dn v ++ L0)) ∧ F i (updV v i x))
    (hfin : ∀ dn v W, (∀ k, k < m → dn k = true) → (∀ k, m ≤ k → dn k = false) → Sep w0 W (made Th m dn v ++ L0) → (∀ k, k < m → F k v) → Mix.wpR P l.toArray (fun _ => True) (fun a' w' => Q .normal a' w') ((l.zip kd).drop m) (actD l dn v T D) W) :
    ∀ (fuel : Nat) (listed : Array Bool) (v : Nat → Value) (w : World), listed.size = l.length → ((List.range l.length).filter fun j => !listed.getD j false).length = fuel → (∀ j, m ≤ j → listed.getD j false = false) →
    Inv l m T D w0 L0 Th F (fun j => listed.getD j false) v w → wpAny P .any l.toArray Q fuel listed (actD l (fun j => listed.getD j false) v T D) w := by
  intro fuel
  induction fuel with
  | zero =>
    intro listed v w hs hf hnt hI
    have hall : ∀ j, j < l.length → listed.getD j false = true := fun j hj => by
      cases hq : listed.getD j false with
      | true => rfl
      | false =>
        exfalso
        have h0 := List.eq_nil_of_length_eq_zero hf
        have : j ∈ (List.range l.length).filter fun j => !listed.getD j false := List.mem_filter.2 ⟨List.mem_range.2 hj, by simp [hq]⟩
        rw [h0] at this; cases this
    have hme : m = l.length := by
      rcases Nat.lt_or_ge m l.length with q | q
      · have := hall m q; rw [hnt m (Nat.le_refl _)] at this; cases this
      · omega
    refine tail_any hl ht kd 0 m listed _ w (by omega) (Nat.le_refl _) hs (fun j hj => ?_) (hfin _ v w (fun k hk => hall k (by omega)) hnt hI.sep (fun k hk => hI.fact k hk (hall k (by omega)))) hkd
    rw [hall j hj]; simp; omega
  | succ fuel ih =>
    intro listed v w hs hf hnt hI
    by_cases hdone : ∀ k, k < m → listed.getD k false = true
    · refine tail_any hl ht kd (fuel + 1) m listed _ w ?_ (Nat.le_refl _) hs (fun j hj => ?_) (hfin _ v w hdone hnt hI.sep (fun k hk => hI.fact k hk (hdone k hk))) hkd
      · rw [← hf]
        have : ((List.range l.length).filter fun j => !listed.getD j false) = (List.range' m (l.length - m)) := by
          have hsp : List.range l.length = List.range m ++ List.range' m (l.length - m) := by
            rw [List.range_eq_range', List.range_eq_range']
            have := List.range'_append (s := 0) (m := m) (n := l.length - m) (step := 1)
            simp at this
            rw [this]; congr 1; omega
          rw [hsp, List.filter_append]
          have e1 : (List.range m).filter (fun j => !listed.getD j false) = [] := by
            rw [List.filter_eq_nil_iff]
            intro j hj
            rw [hdone j (List.mem_range.1 hj)]; simp
          have e2 : (List.range' m (l.length - m)).filter (fun j => !listed.getD j false) = List.range' m (l.length - m) := by
            rw [List.filter_eq_self]
            intro j hj
            rw [hnt j (by have := List.mem_range'_1.1 hj; omega)]; rfl
          rw [e1, e2]; rfl
        rw [this, List.length_range']; omega
      · constructor
        · intro h
          rcases Nat.lt_or_ge j m with q | q
          · exact q
          · rw [hnt j q] at h; cases h
        · exact fun h => hdone j h
    · -- some operation ahead of the last ones is to come
      have hex : ∃ k, k < m ∧ listed.getD k false = false ∧ ∀ j, j < k → listed.getD j false = true := by
        obtain ⟨k0, hk0⟩ := Classical.not_forall.1 hdone
        obtain ⟨hk1, hk2⟩ := Classical.not_imp.1 hk0
        have : ∀ b, ∀ k, k ≤ b → k < m → listed.getD k false ≠ true → ∃ k, k < m ∧ listed.getD k false = false ∧ ∀ j, j < k → listed.getD j false = true := by
          intro b
          induction b with
          | zero => intro k hk hkm hn; exact ⟨k, hkm, by simpa using hn, fun j hj => by omega⟩
          | succ b ihb =>
            intro k hk hkm hn
            by_cases q : ∀ j, j < k → listed.getD j false = true
            · exact ⟨k, hkm, by simpa using hn, q⟩
            · obtain ⟨j, hj⟩ := Classical.not_forall.1 q
              obtain ⟨hj1, hj2⟩ := Classical.not_imp.1 hj
              exact ihb j (by omega) (by omega) hj2
        exact this k0 k0 (Nat.le_refl _) hk1 hk2
      obtain ⟨k, hkm, hkn, hkl⟩ := hex
      have hkL : k < l.length := by omega
      refine ⟨fun h0 => ?_, fun i hi => ?_⟩
      · exfalso
        have ho : l[k]? = some l[k] := List.getElem?_eq_getElem hkL
        have : k ∈ Region.ready .any l.toArray listed := mem_ready.2 ⟨by
          have hk' : k < listed.size := by omega
          simpa [hk'] using hkn, l[k], by simp [hkL], fun e he hb => hkl e.on ((low_of hl ho).2 e he hb)⟩
        rw [h0] at this; cases this
      · obtain ⟨h1, o, hoi, hd⟩ := mem_ready.1 hi
        have hlt : i < l.length := by simpa using (Array.getElem?_eq_some_iff.1 hoi).1
        have ho : l[i]? = some o := by simpa using hoi
        have hi' : i < listed.size := by omega
        have hin : listed.getD i false = false := by simpa [hi'] using h1
        have him : i < m := by
          rcases Nat.lt_or_ge i m with q | q
          · exact q
          · obtain ⟨e, he, hb, rfl⟩ := tail_of ht ho q (show k < i by omega)
            rw [hd e he hb] at hkn; cases hkn
        obtain ⟨x, W', hr, hsp, hFi⟩ := hstep i o ho him (fun j => listed.getD j false) v w hin hd hI
        have hmore : (fun j => (listed.setIfInBounds i true).getD j false) = more (fun j => listed.getD j false) i := by
          funext j
          unfold more
          by_cases e : i = j
          · subst e; simp [hi']
          · have : (j == i) = false := by simp; omega
            rw [Array.getD_eq_getD_getElem?, Array.getElem?_setIfInBounds_ne e, ← Array.getD_eq_getD_getElem?, this, Bool.or_false]
        have hkeep : ∀ k, k < m → listed.getD k false = true → (F k v → F k (updV v i x)) ∧ Th k v = Th k (updV v i x) := fun k hk hkd' => by
          refine hloc k hk v (updV v i x) fun j hj => ?_
          have hok : l[k]? = some l[k] := List.getElem?_eq_getElem (by omega)
          have hdk := hI.cl k _ hok hkd'
          rcases loc_of hlb hok hk hdk hj with q | q
          · subst q
            rw [updV_ne]
            intro e; subst e; rw [hin] at hkd'; cases hkd'
          · rw [updV_ne]
            intro e; subst e; rw [hin] at q; cases q
        have hth : ∀ k, k < m → more (fun j => listed.getD j false) i k = true → F k (updV v i x) := fun k hk hkd' => by
          by_cases e : i = k
          · subst e; exact hFi
          · have hk2 : listed.getD k false = true := by
              have : (k == i) = false := by simp; omega
              simpa [more, this] using hkd'
            exact (hkeep k hk hk2).1 (hI.fact k hk hk2)
        have hI' : Inv l m T D w0 L0 Th F (more (fun j => listed.getD j false) i) (updV v i x) W' := by
          refine ⟨?_, hth, fun k o' hok hkd' e he hb => ?_⟩
          · refine hsp.perm ?_
            rw [← List.append_assoc]
            refine List.Perm.append_right _ ?_
            unfold made
            refine List.Perm.symm ?_
            have hp := made_more (fun k v => if k < m then Th k v else []) (dn := fun j => listed.getD j false) hin v (updV v i x) (fun k hk => by
              by_cases q : k < m
              · rw [if_pos q, if_pos q]; exact ((hkeep k q hk).2).symm
              · rw [if_neg q, if_neg q]) (List.range m) List.nodup_range
            rw [if_pos (List.mem_range.2 him), if_pos him] at hp
            have e1 : ∀ (dn : Nat → Bool) (u : Nat → Value), ((List.range m).flatMap fun k => if dn k = true then (if k < m then Th k u else []) else []) = (List.range m).flatMap fun k => if dn k = true then Th k u else [] := fun dn u => by
              rw [List.flatMap_def, List.flatMap_def]
              congr 1
              refine List.map_congr_left fun k hk => ?_
              rw [if_pos (List.mem_range.1 hk)]
            rw [e1, e1] at hp
            exact hp
          · unfold more at hkd' ⊢
            simp only [Bool.or_eq_true] at hkd' ⊢
            rcases hkd' with q | q
            · exact .inl (hI.cl k o' hok q e he hb)
            · have : k = i := by simpa using q
              subst this
              rw [ho] at hok; cases hok
              exact .inl (hd e he hb)
        have hW := ih (listed.setIfInBounds i true) (updV v i x) W' (by simp [hs]) ?_ (fun j hj => by
            rw [Array.getD_eq_getD_getElem?, Array.getElem?_setIfInBounds_ne (by omega), ← Array.getD_eq_getD_getElem?]; exact hnt j hj) (by rw [hmore]; exact hI')
        · rw [hmore] at hW
          unfold wpOp
          rw [hoi]
          dsimp only
          have hg := (low_of hl ho).1
          rw [if_pos (by simp [Region.wanted, hg])]
          refine .inl ?_
          unfold Oper.wp
          rw [hr]
          simp only [Oper.upon]
          rw [act_put hcd ho hin]
          exact hW
        · have hmem : i ∈ (List.range l.length).filter fun j => !listed.getD j false := List.mem_filter.2 ⟨List.mem_range.2 hlt, by simp [hin]⟩
          have hnd : ((List.range l.length).filter fun j => !listed.getD j false).Nodup := List.nodup_range.filter _
          have hfe : ((List.range l.length).filter fun j => !(listed.setIfInBounds i true).getD j false) = ((List.range l.length).filter fun j => !listed.getD j false).erase i := by
            rw [hnd.erase_eq_filter, List.filter_filter]
            refine List.filter_congr fun j _ => ?_
            have := congrFun hmore j
            rw [this]
            unfold more
            dsimp only
            generalize listed.getD j false = b
            cases b <;> by_cases e : j = i <;> simp [e, bne]
          rw [hfe, List.length_erase_of_mem hmem, hf]; omega
/-- **OPERATIONS THAT MAKE THINGS, IN ANY ORDER.** -/
theorem region {id : Nat} {w : World} (kd : List Nat) (loc : List (List Nat)) (hm : P.follows .mixedOrders = true) (hc : (chk l m && locB l loc m && Nat.beq kd.length l.length) = true) (hS : Sep w0 w.drew L0)
    (hloc : ∀ k, k < m → ∀ v v' : Nat → Value, (∀ j ∈ loc.getD k [], v j = v' j) → (F k v → F k v') ∧ Th k v = Th k v')
    (hstep : ∀ i o, l[i]? = some o → i < m → ∀ dn v W, dn i = false → deps o dn → Inv l m T D w0 L0 Th F dn v W →
      ∃ x W', (execOp (actD l dn v T D).eval o).run P W = .ok (.value x) W' ∧ Sep w0 W' (Th i (updV v i x) ++ (made Th m dn v ++ L0)) ∧ F i (updV v i x))
    (hfin : ∀ dn v W, (∀ k, k < m → dn k = true) → (∀ k, m ≤ k → dn k = false) → Sep w0 W (made Th m dn v ++ L0) → (∀ k, k < m → F k v) → Mix.wpR P l.toArray (fun _ => True) (fun a' w' => Q .normal a' w') ((l.zip kd).drop m) (actD l dn v T D) W) :
    (Code.region id l.toArray true).wp P Q { tmps := T, defers := D } w := by
  simp only [chk, Bool.and_eq_true] at hc
  obtain ⟨⟨⟨⟨⟨h1, h2⟩, h3⟩, h4⟩, h5⟩, h6⟩ := hc
  have hml : m ≤ l.length := by simpa using h4
  refine wp_region_any hm ?_
  have hf0 : ∀ j, (Array.replicate l.toArray.size false).getD j false = false := fun j => by
    rw [Array.getD_eq_getD_getElem?, Array.getElem?_replicate]; split <;> rfl
  have hdn : (fun j => (Array.replicate l.toArray.size false).getD j false) = fun _ => false := funext hf0
  have hmd : made Th m (fun _ => false) (fun _ => undef) = [] := by
    unfold made
    rw [List.flatMap_eq_nil_iff]
    intro k _; simp
  have hact : actD l (fun _ => false) (fun _ => undef) T D = { tmps := T, defers := D } := by
    unfold actD
    congr 1
    apply Array.ext_getElem?
    intro p
    by_cases hp : p < T.size
    · rw [apD_get l h1 0 _ _ T p hp]
      split <;> simp
    · rw [Array.getElem?_eq_none (by rw [apD_size]; omega), Array.getElem?_eq_none (by omega)]
  have h := made_any (P := P) (Q := Q) (T := T) (D := D) (w0 := w0) (L0 := L0) h1 h2 h3 hml kd (Nat.eq_of_beq_eq_true h6) loc h5 hloc hstep hfin l.toArray.size (Array.replicate l.toArray.size false) (fun _ => undef) { w with drawn := w.drawn + 1 } (by simp) (by
      rw [show ((List.range l.length).filter fun j => !(Array.replicate l.toArray.size false).getD j false) = List.range l.length by
        rw [List.filter_eq_self]; intro j _; rw [hf0]; rfl]
      simp) (fun j _ => hf0 j) (by
      rw [hdn]
      exact ⟨(by rw [hmd]; exact hS), fun k _ q => (by cases q), fun k o _ q => (by cases q)⟩)
  rw [hdn, hact] at h
  exact h
/-- The same, with what the operands are told of each slot. -/
theorem region_r {id : Nat} {w : World} (kd : List Nat) (loc : List (List Nat)) (hm : P.follows .mixedOrders = true) (hc : (chk l m && locB l loc m && Nat.beq kd.length l.length) = true) (hS : Sep w0 w.drew L0)
    (hloc : ∀ k, k < m → ∀ v v' : Nat → Value, (∀ j ∈ loc.getD k [], v j = v' j) → (F k v → F k v') ∧ Th k v = Th k v')
    (hstep : ∀ i o, l[i]? = some o → i < m → ∀ dn v W (ρ : Operand → Value), dn i = false → deps o dn → Sep w0 W (made Th m dn v ++ L0) → (∀ k, k < m → dn k = true → F k v) →
      (∀ d j, who l d = some j → dn j = true → d < T.size → ρ (.tmp d) = v j) → (∀ d, who l d = none → d < T.size → ρ (.tmp d) = T.getD d undef) → (∀ c, ρ (.const c) = c) →
      ∃ x W', (execOp ρ o).run P W = .ok (.value x) W' ∧ Sep w0 W' (Th i (updV v i x) ++ (made Th m dn v ++ L0)) ∧ F i (updV v i x))
    (hfin : ∀ dn v W, (∀ k, k < m → dn k = true) → (∀ k, m ≤ k → dn k = false) → Sep w0 W (made Th m dn v ++ L0) → (∀ k, k < m → F k v) → Mix.wpR P l.toArray (fun _ => True) (fun a' w' => Q .normal a' w') ((l.zip kd).drop m) (actD l dn v T D) W) :
    (Code.region id l.toArray true).wp P Q { tmps := T, defers := D } w := by
  have hcd : dstB l = true := by simp only [chk, Bool.and_eq_true] at hc; exact hc.1.1.1.1.1
  refine region (m := m) (Th := Th) (F := F) (L0 := L0) (w0 := w0) kd loc hm hc hS hloc (fun i o ho him dn v W hi hd hI => ?_) hfin
  exact hstep i o ho him dn v W _ hi hd hI.sep hI.fact (fun d j hw hj hp => act_eval hcd hw hj v D hp) (fun d hw hp => act_base hcd hw v D hp) (fun _ => rfl)
end
end Go.Mix3
namespace Go.Mix4
open Go Go.Mem Go.Mix Go.Mix3
/-- What one operation yields, whatever it is. -/
def outR (P : Program) (K : Value → World → Prop) : Result Next → Prop
  | .ok (.value v) w' => K v w'
  | .ok .skip w' => K undef w'
  | .ok (.enter f args) w' => Calls P f args w' fun e w'' => ∃ v, e = .returned v ∧ K v w''
  | _ => False
theorem wp_of_out {P : Program} {o : Oper} {a : Act} {w : World} {K : Act → World → Prop} {Q : Exit → Act → World → Prop} (h : outR P (fun v w' => K (a.put o.dst v) w') ((execOp a.eval o).run P w)) : o.wp P a w K Q := by
  unfold Oper.wp
  generalize (execOp a.eval o).run P w = r at h ⊢
  match r, h with
  | .ok (.value v) w', h => exact h
  | .ok .skip w', h => exact h
  | .ok (.enter f args) w', h =>
    refine Calls.mono h ?_
    rintro e w'' ⟨v, rfl, hk⟩
    exact hk
theorem outR_mono {P : Program} {K K' : Value → World → Prop} (hk : ∀ v w, K v w → K' v w) {r : Result Next} (h : outR P K r) : outR P K' r := by
  match r, h with
  | .ok (.value v) w', h => exact hk _ _ h
  | .ok .skip w', h => exact hk _ _ h
  | .ok (.enter f args) w', h =>
    refine Calls.mono h ?_
    rintro e w'' ⟨v, rfl, hv⟩
    exact ⟨v, rfl, hk _ _ hv⟩

def pairsT (ops : Array Oper) (n1 : Nat) (o : Oper) (k v : Nat) : Nat → List (Oper × Nat) → Bool
  | _, [] => true
  | 0, _ :: _ => false
  | j + 1, (om, km) :: r => (Nat.blt j n1 || (v.testBit j || (om.apart ops o && swapB km k))) && pairsT ops n1 o k v j r
def okT (ops : Array Oper) (n1 : Nat) : List (Oper × Nat) → Nat → List Nat → List (Oper × Nat) → Bool
  | [], _, _, _ => true
  | (o, k) :: rest, j, acc, prev => CheckFast.force (CheckFast.one (fun i => if i < j then acc.getD (j - 1 - i) 0 else 0) o) fun v =>
      (Mix.lowB o j && (Nat.blt j n1 || pairsT ops n1 o k v j prev)) && okT ops n1 rest (j + 1) (v :: acc) ((o, k) :: prev)
def grdB (l : List Oper) (m : Nat) : Bool := (List.range m).all fun i => match l[i]? with | some o => o.guard.isNone | none => true
def chk4 (l : List Oper) (m : Nat) (kd : List Nat) : Bool := dstB l && grdB l m && crossL l.toArray m l 0 [] && Nat.ble m l.length && Region.noSelect l.toArray && Nat.beq kd.length l.length && okT l.toArray m (l.zip kd) 0 [] []

section
variable {P : Program} {ops : Array Oper}
/-- Of the second stage. -/
structure FineT (ops : Array Oper) (kd : Nat → Nat) (n1 : Nat) (i : Nat) (o : Oper) : Prop where
  low : ∀ e ∈ o.after, Region.binds .any e = true → e.on < i
  pair : n1 ≤ i → ∀ m om, n1 ≤ m → m < i → ops[m]? = some om → Before ops m o ∨ (om.apart ops o = true ∧ swapB (kd m) (kd i) = true)
theorem pairsT_spec {n1 : Nat} {kd : Nat → Nat} {o : Oper} {k v : Nat} : ∀ (j : Nat) (prev : List (Oper × Nat)), prev.length = j → (∀ m, m < j → ∃ om, ops[m]? = some om ∧ prev[j - 1 - m]? = some (om, kd m)) →
    pairsT ops n1 o k v j prev = true → ∀ m om, n1 ≤ m → m < j → ops[m]? = some om → v.testBit m = true ∨ (om.apart ops o = true ∧ swapB (kd m) k = true) := by
  intro j
  induction j with
  | zero => intro prev _ _ _ m om _ hm; omega
  | succ j ih =>
    intro prev hl hp h m om hn hm hom
    match prev, hl with
    | (oj, kj) :: r, hl =>
      simp only [pairsT, Bool.and_eq_true, Bool.or_eq_true] at h
      by_cases hmj : m = j
      · subst hmj
        obtain ⟨om', h1, h2⟩ := hp m (by omega)
        have : om' = om := Option.some.inj (h1.symm.trans hom)
        subst this
        simp only [show m + 1 - 1 - m = 0 by omega, List.getElem?_cons_zero, Option.some.injEq, Prod.mk.injEq] at h2
        rw [← h2.1, ← h2.2]
        rcases h.1 with h3 | h3
        · have : m + 1 ≤ n1 := by simpa [Nat.blt] using h3
          omega
        · exact h3
      · refine ih r (by simpa using hl) (fun m' hm' => ?_) h.2 m om hn (by omega) hom
        obtain ⟨om', h1, h2⟩ := hp m' (by omega)
        refine ⟨om', h1, ?_⟩
        rw [show j + 1 - 1 - m' = (j - 1 - m') + 1 by omega, List.getElem?_cons_succ] at h2
        exact h2
theorem okT_spec {n1 : Nat} {kd : Nat → Nat} : ∀ (l : List (Oper × Nat)) (j : Nat) (acc : List Nat) (prev : List (Oper × Nat)),
    (∀ i, l[i]? = (ops[j + i]?).map fun o => (o, kd (j + i))) → prev.length = j → (∀ m, m < j → ∃ om, ops[m]? = some om ∧ prev[j - 1 - m]? = some (om, kd m)) →
    (∀ m om, m < j → ops[m]? = some om → ∀ x, (acc.getD (j - 1 - m) 0).testBit x = true → Before ops x om) →
    okT ops n1 l j acc prev = true → ∀ i o, j ≤ i → ops[i]? = some o → FineT ops kd n1 i o
  | [], j, _, _, hl, _, _, _, _ => fun i o hi ho => by
    have := hl (i - j)
    rw [show j + (i - j) = i by omega, ho] at this
    simp at this
  | (o, k) :: rest, j, acc, prev, hl, hpl, hp, hacc, h => by
    have h0 := hl 0
    simp only [List.getElem?_cons_zero, Nat.add_zero] at h0
    obtain ⟨oj, hoj, hoe⟩ : ∃ oj, ops[j]? = some oj ∧ (o, k) = (oj, kd j) := by
      cases hq : ops[j]? with
      | none => rw [hq] at h0; simp at h0
      | some oj => rw [hq] at h0; exact ⟨oj, rfl, by simpa using h0⟩
    simp only [Prod.mk.injEq] at hoe
    obtain ⟨rfl, rfl⟩ := hoe
    simp only [okT, CheckFast.force_eq, Bool.and_eq_true] at h
    obtain ⟨⟨hlow, hpairs⟩, hrest⟩ := h
    have hlow' : ∀ e ∈ o.after, Region.binds .any e = true → e.on < j := by
      intro e he hb
      have := List.all_eq_true.1 hlow e (by simpa using he)
      have h2 : e.on + 1 ≤ j := by simpa [hb, Nat.blt] using this
      omega
    have hbef : ∀ x, (CheckFast.one (fun i => if i < j then acc.getD (j - 1 - i) 0 else 0) o).testBit x = true → Before ops x o := by
      intro x hx listed hcl hd
      obtain ⟨e, he, hb, hx⟩ := one_spec hx
      have hel := hd e he hb
      rcases hx with rfl | hx
      · exact hel
      · have hlt := hlow' e he hb
        simp only [hlt, if_true] at hx
        have hsz : e.on < ops.size := Nat.lt_trans hlt (Array.getElem?_eq_some_iff.1 hoj).1
        exact hacc e.on ops[e.on] hlt (by simp [hsz]) x hx listed hcl (hcl e.on ops[e.on] (by simp [hsz]) hel)
    intro i o' hi ho'
    by_cases hij : i = j
    · subst hij
      have : o' = o := Option.some.inj (ho'.symm.trans hoj)
      subst this
      refine ⟨hlow', fun hn m om hnm hm hom => ?_⟩
      rcases Bool.or_eq_true _ _ ▸ hpairs with q | q
      · have : i + 1 ≤ n1 := by simpa [Nat.blt] using q
        omega
      · exact (pairsT_spec i prev hpl hp q m om hnm hm hom).imp (hbef m) id
    · refine okT_spec rest (j + 1) _ _ (fun i' => ?_) (by simp [hpl]) (fun m hm => ?_) (fun m om hm hom x hx => ?_) hrest i o' (by omega) ho'
      · have := hl (i' + 1)
        rw [List.getElem?_cons_succ] at this
        rw [this, show j + (i' + 1) = j + 1 + i' by omega]
      · by_cases hmj : m = j
        · subst hmj
          exact ⟨o, hoj, by simp⟩
        · obtain ⟨om, h1, h2⟩ := hp m (by omega)
          exact ⟨om, h1, by rw [show j + 1 - 1 - m = (j - 1 - m) + 1 by omega, List.getElem?_cons_succ]; exact h2⟩
      · by_cases hmj : m = j
        · subst hmj
          have : om = o := Option.some.inj (hom.symm.trans hoj)
          subst this
          simp only [show m + 1 - 1 - m = 0 by omega, List.getD_cons_zero] at hx
          exact hbef x hx
        · rw [show j + 1 - 1 - m = (j - 1 - m) + 1 by omega, List.getD_cons_succ] at hx
          exact hacc m om (by omega) hom x hx
/-- The second stage: one walk, in the order of the text. -/
theorem tail4 {C : World → Prop} {Q : Act → World → Prop} {kd : Nat → Nat} {n1 : Nat} {Q' : Exit → Act → World → Prop} (hQ : ∀ a w, C w → Q a w → Q' .normal a w) (hsel : ∀ (j : Nat) (o : Oper) cs b, ops[j]? = some o → o.op ≠ .select cs b)
    (hfine : ∀ i o, ops[i]? = some o → FineT ops kd n1 i o) : ∀ (n : Nat) (R : List Nat) (listed : Array Bool) (a : Act) (w : World), R.length = n → listed.size = ops.size → R.Pairwise (· < ·) → (∀ j ∈ R, n1 ≤ j) →
    (∀ j, j < ops.size → (listed.getD j false = false ↔ j ∈ R)) → (∀ j ∈ R, j < ops.size) → Closed ops listed → C w → Mix.wpR P ops C Q (items ops kd R) a w → wpAny P .any ops Q' n listed a w := by
  intro n
  induction n with
  | zero =>
    intro R listed a w hR hsz hord _ hun _ _ hC h
    obtain rfl : R = [] := List.eq_nil_of_length_eq_zero hR
    refine ⟨?_, hQ _ _ hC (by simpa [items, Mix.wpR] using h)⟩
    apply List.eq_nil_iff_forall_not_mem.2
    intro j hj
    obtain ⟨h1, o, ho, _⟩ := mem_ready.1 hj
    have hlt := (Array.getElem?_eq_some_iff.1 ho).1
    have h2 : listed.getD j false = false := by
      have : j < listed.size := by omega
      simpa [this] using h1
    have := (hun j hlt).1 h2
    cases this
  | succ n ih =>
    intro R listed a w hR hsz hord hge hun hlt hcl hC h
    have ready_least : ∀ r0 R', R = r0 :: R' → r0 ∈ Region.ready .any ops listed := by
      intro r0 R' hRe
      have hr0 : r0 ∈ R := by rw [hRe]; exact List.mem_cons_self
      have hb := hlt r0 hr0
      refine mem_ready.2 ⟨?_, ops[r0], by simp [hb], fun e he hbe => ?_⟩
      · have := (hun r0 hb).2 hr0
        have hb' : r0 < listed.size := by omega
        simpa [hb'] using this
      · have hel := (hfine r0 ops[r0] (by simp [hb])).low e he hbe
        cases hq : listed.getD e.on false with
        | true => rfl
        | false =>
          have := (hun e.on (by omega)).1 hq
          rw [hRe] at this hord
          rcases List.mem_cons.1 this with h1 | h1
          · omega
          · have := (List.pairwise_cons.1 hord).1 e.on h1
            omega
    refine ⟨fun h0 => ?_, fun i hi => ?_⟩
    · match R, hR with
      | r0 :: R', _ =>
        have := ready_least r0 R' rfl
        rw [h0] at this
        cases this
    · obtain ⟨hl, oi, hoi, hdeps⟩ := mem_ready.1 hi
      have hisz := (Array.getElem?_eq_some_iff.1 hoi).1
      have hl' : listed.getD i false = false := by
        have : i < listed.size := by omega
        simpa [this] using hl
      have hiR := (hun i hisz).1 hl'
      have hin := hge i hiR
      obtain ⟨R1, R2, hRR⟩ := List.append_of_mem hiR
      subst hRR
      have hord' := List.pairwise_append.1 hord
      have hnot : i ∉ R1 ++ R2 := by
        intro hmem
        rcases List.mem_append.1 hmem with h1 | h1
        · have := hord'.2.2 i h1 i List.mem_cons_self; omega
        · have := (List.pairwise_cons.1 hord'.2.1).1 i h1; omega
      have hb := bubble hsel hoi R2 R1 a w hC (fun m hm => by
        have hmlt : m < i := hord'.2.2 m hm i List.mem_cons_self
        have hms := hlt m (List.mem_append_left _ hm)
        refine ⟨ops[m], by simp [hms], ?_⟩
        rcases (hfine i oi hoi).pair hin m ops[m] (hge m (List.mem_append_left _ hm)) hmlt (by simp [hms]) with hbef | h2
        · have h1 := hbef listed hcl hdeps
          have h2 := (hun m hms).2 (List.mem_append_left _ hm)
          rw [h1] at h2; cases h2
        · exact h2) h
      refine wpOp_of_opM hoi hC (fun a' w' hC' hk => ih (R1 ++ R2) _ a' w' ?_ ?_ ?_ ?_ ?_ ?_ ?_ hC' hk) hb
      · simp at hR ⊢; omega
      · simp [hsz]
      · exact List.pairwise_append.2 ⟨hord'.1, (List.pairwise_cons.1 hord'.2.1).2, fun x hx y hy => hord'.2.2 x hx y (List.mem_cons_of_mem _ hy)⟩
      · intro j hj
        refine hge j ?_
        rcases List.mem_append.1 hj with h1 | h1
        · exact List.mem_append_left _ h1
        · exact List.mem_append_right _ (List.mem_cons_of_mem _ h1)
      · intro j hj
        by_cases hji : i = j
        · subst hji
          have : i < listed.size := by omega
          simp only [Array.getD_eq_getD_getElem?, Array.getElem?_setIfInBounds_self_of_lt this, Option.getD_some]
          simpa using hnot
        · rw [getD_set_ne false hji, hun j hj]
          simp only [List.mem_append, List.mem_cons]
          constructor
          · rintro (h | h | h)
            · exact .inl h
            · exact absurd h.symm hji
            · exact .inr h
          · rintro (h | h)
            · exact .inl h
            · exact .inr (.inr h)
      · intro j hj
        refine hlt j ?_
        rcases List.mem_append.1 hj with h1 | h1
        · exact List.mem_append_left _ h1
        · exact List.mem_append_right _ (List.mem_cons_of_mem _ h1)
      · intro j oj hoj hl2 e he hbe
        by_cases hij : i = j
        · subst hij
          have : oj = oi := Option.some.inj (hoj.symm.trans hoi)
          subst this
          exact getD_set_true (hdeps e he hbe)
        · rw [getD_set_ne false hij] at hl2
          exact getD_set_true (hcl j oj hoj hl2 e he hbe)
end

section
variable {P : Program} {l : List Oper} {m : Nat} {Q : Exit → Act → World → Prop} {T : Array Value} {D : List Deferred}
/-- **FIRST OPERATIONS THAT MAKE AND TURN THINGS, IN ANY ORDER; THEN THE REST, WALKED ONCE.** J: what stays so while those of the first stage are done: which ones are, what each yielded, the world. -/
theorem region {id : Nat} {w : World} (kd : List Nat) (J : (Nat → Bool) → (Nat → Value) → World → Prop) (hm : P.follows .mixedOrders = true) (hc : chk4 l m kd = true)
    (hJ : J (fun _ => false) (fun _ => undef) w.drew)
    (hstep : ∀ i o, l[i]? = some o → i < m → ∀ dn v W (ρ : Operand → Value), dn i = false → deps o dn → (∀ k o', l[k]? = some o' → dn k = true → deps o' dn) → J dn v W →
      (∀ d j, who l d = some j → dn j = true → d < T.size → ρ (.tmp d) = v j) → (∀ d, who l d = none → d < T.size → ρ (.tmp d) = T.getD d undef) → (∀ c, ρ (.const c) = c) →
      outR P (fun x W' => J (more dn i) (updV v i x) W') ((execOp ρ o).run P W))
    (hfin : ∀ v W, J (fun k => Nat.blt k m) v W → ∃ C : World → Prop, C W ∧ Mix.wpR P l.toArray C (fun a' w' => Q .normal a' w') ((l.zip kd).drop m) (actD l (fun k => Nat.blt k m) v T D) W) :
    (Code.region id l.toArray true).wp P Q { tmps := T, defers := D } w := by
  simp only [chk4, Bool.and_eq_true] at hc
  obtain ⟨⟨⟨⟨⟨⟨hcd, hg⟩, hcr⟩, hml⟩, hsel⟩, hkl⟩, hok⟩ := hc
  have hml : m ≤ l.length := by simpa using hml
  have hkl : kd.length = l.length := Nat.eq_of_beq_eq_true hkl
  have hz : ∀ i, (l.zip kd)[i]? = (l.toArray[0 + i]?).map fun o => (o, (fun i => kd.getD i 0) (0 + i)) := by
    intro i
    rw [Nat.zero_add]
    rcases Nat.lt_or_ge i l.length with hi | hi
    · have hi' : i < kd.length := by omega
      simp [List.getElem?_zip_eq_some, hi, hi', List.getD]
    · have hi' : kd.length ≤ i := by omega
      have hzl : (l.zip kd).length ≤ i := by simp; omega
      simp [List.getElem?_eq_none hzl, hi]
  have hfine0 := okT_spec (ops := l.toArray) (n1 := m) (kd := fun i => kd.getD i 0) (l.zip kd) 0 [] [] hz rfl (fun m hm => by omega) (fun m _ hm => by omega) hok
  have hfine : ∀ i o, l.toArray[i]? = some o → FineT l.toArray (fun i => kd.getD i 0) m i o := fun i o ho => hfine0 i o (Nat.zero_le _) ho
  have hcross := crossL_spec (ops := l.toArray) (n1 := m) l 0 [] (fun i => by simp) (fun m _ hm => by omega) (fun i o ho => (hfine i o ho).low) hcr
  have hgd : ∀ i o, l[i]? = some o → i < m → o.guard = none := fun i o ho hi => by
    have := List.all_eq_true.1 hg i (List.mem_range.2 hi)
    rw [ho] at this
    simpa using this
  have main : ∀ (fuel : Nat) (listed : Array Bool) (v : Nat → Value) (W : World), listed.size = l.length → ((List.range l.length).filter fun j => !listed.getD j false).length = fuel → (∀ j, m ≤ j → listed.getD j false = false) →
      Closed l.toArray listed → J (fun j => listed.getD j false) v W → wpAny P .any l.toArray Q fuel listed (actD l (fun j => listed.getD j false) v T D) W := by
    intro fuel
    induction fuel with
    | zero =>
      intro listed v W hs hf hnt hcl hI
      have hall : ∀ j, j < l.length → listed.getD j false = true := fun j hj => by
        cases hq : listed.getD j false with
        | true => rfl
        | false =>
          exfalso
          have h0 := List.eq_nil_of_length_eq_zero hf
          have : j ∈ (List.range l.length).filter fun j => !listed.getD j false := List.mem_filter.2 ⟨List.mem_range.2 hj, by simp [hq]⟩
          rw [h0] at this; cases this
      have hme : m = l.length := by
        rcases Nat.lt_or_ge m l.length with q | q
        · have := hall m q; rw [hnt m (Nat.le_refl _)] at this; cases this
        · omega
      rw [Mix3.dn_eq (m := m) (fun k hk => hall k (by omega)) hnt] at hI ⊢
      obtain ⟨C, hC, hw⟩ := hfin v W hI
      refine tail4 (C := C) (Q := fun a' w' => Q .normal a' w') (n1 := m) (kd := fun i => kd.getD i 0) (fun _ _ _ h => h) (Region.noSelect_spec hsel) hfine 0 [] listed _ W rfl (by simpa using hs) List.Pairwise.nil (fun j hj => by simp at hj) (fun j hj => ?_) (fun j hj => by simp at hj) hcl hC ?_
      · rw [hall j (by simpa using hj)]; simp
      · rw [List.drop_eq_nil_of_le (by rw [List.length_zip]; omega)] at hw
        exact hw
    | succ fuel ih =>
      intro listed v W hs hf hnt hcl hI
      by_cases hdone : ∀ k, k < m → listed.getD k false = true
      · rw [Mix3.dn_eq (m := m) hdone hnt] at hI ⊢
        obtain ⟨C, hC, hw⟩ := hfin v W hI
        have hfl : ((List.range l.length).filter fun j => !listed.getD j false) = (List.range l.length).drop m := by
          have hsp : List.range l.length = List.range m ++ (List.range l.length).drop m := by
            have h3 : List.range m = (List.range l.length).take m := by rw [List.take_range, Nat.min_eq_left hml]
            rw [h3]; exact (List.take_append_drop _ _).symm
          rw [hsp, List.filter_append]
          have e1 : (List.range m).filter (fun j => !listed.getD j false) = [] := by
            rw [List.filter_eq_nil_iff]
            intro j hj
            rw [hdone j (List.mem_range.1 hj)]; simp
          have e2 : ((List.range l.length).drop m).filter (fun j => !listed.getD j false) = (List.range l.length).drop m := by
            rw [List.filter_eq_self]
            intro j hj
            obtain ⟨q, hq, rfl⟩ := List.getElem_of_mem hj
            rw [hnt _ (by simp)]; rfl
          rw [e1, e2, ← hsp]; rfl
        rw [hfl] at hf
        refine tail4 (C := C) (Q := fun a' w' => Q .normal a' w') (n1 := m) (kd := fun i => kd.getD i 0) (fun _ _ _ h => h) (Region.noSelect_spec hsel) hfine (fuel + 1) ((List.range l.length).drop m) listed _ W hf (by simpa using hs) (List.pairwise_lt_range.sublist (List.drop_sublist _ _)) (fun j hj => ?_) (fun j hj => ?_) (fun j hj => ?_) hcl hC ?_
        · obtain ⟨q, hq, rfl⟩ := List.getElem_of_mem hj
          simp
        · have hj : j < l.length := by simpa using hj
          rw [← hfl]
          simp [hj]
        · have := List.mem_of_mem_drop hj
          simpa using this
        · have e : items l.toArray (fun i => kd.getD i 0) (List.range l.length) = l.zip kd := by
            apply List.ext_getElem?
            intro i
            rw [hz i, Nat.zero_add]
            rcases Nat.lt_or_ge i l.length with hi | hi
            · simp [items, hi, List.getD]
            · simp [items, hi]
          have e2 : items l.toArray (fun i => kd.getD i 0) ((List.range l.length).drop m) = (l.zip kd).drop m := by
            rw [← e]; unfold items
            rw [← List.map_drop]
          rw [e2]; exact hw
      · -- some operation of the first stage is to come
        have hex : ∃ k, k < m ∧ listed.getD k false = false ∧ ∀ j, j < k → listed.getD j false = true := by
          obtain ⟨k0, hk0⟩ := Classical.not_forall.1 hdone
          obtain ⟨hk1, hk2⟩ := Classical.not_imp.1 hk0
          have : ∀ b, ∀ k, k ≤ b → k < m → listed.getD k false ≠ true → ∃ k, k < m ∧ listed.getD k false = false ∧ ∀ j, j < k → listed.getD j false = true := by
            intro b
            induction b with
            | zero => intro k hk hkm hn; exact ⟨k, hkm, by simpa using hn, fun j hj => by omega⟩
            | succ b ihb =>
              intro k hk hkm hn
              by_cases q : ∀ j, j < k → listed.getD j false = true
              · exact ⟨k, hkm, by simpa using hn, q⟩
              · obtain ⟨j, hj⟩ := Classical.not_forall.1 q
                obtain ⟨hj1, hj2⟩ := Classical.not_imp.1 hj
                exact ihb j (by omega) (by omega) hj2
          exact this k0 k0 (Nat.le_refl _) hk1 hk2
        obtain ⟨k, hkm, hkn, hkl'⟩ := hex
        have hkL : k < l.length := by omega
        refine ⟨fun h0 => ?_, fun i hi => ?_⟩
        · exfalso
          have ho : l[k]? = some l[k] := List.getElem?_eq_getElem hkL
          have : k ∈ Region.ready .any l.toArray listed := mem_ready.2 ⟨by
            have hk' : k < listed.size := by omega
            simpa [hk'] using hkn, l[k], by simp [hkL], fun e he hb => hkl' e.on ((hfine k l[k] (by simp [hkL])).low e he hb)⟩
          rw [h0] at this; cases this
        · obtain ⟨h1, o, hoi, hd⟩ := mem_ready.1 hi
          have hlt : i < l.length := by simpa using (Array.getElem?_eq_some_iff.1 hoi).1
          have ho : l[i]? = some o := by simpa using hoi
          have hi' : i < listed.size := by omega
          have hin : listed.getD i false = false := by simpa [hi'] using h1
          have him : i < m := by
            rcases Nat.lt_or_ge i m with q | q
            · exact q
            · have hb := hcross i o (Nat.zero_le _) q hoi k hkm listed hcl hd
              rw [hb] at hkn; cases hkn
          have hst := hstep i o ho him (fun j => listed.getD j false) v W (actD l (fun j => listed.getD j false) v T D).eval hin hd (fun k' o' hk' hd' e he hb => hcl k' o' (by simpa using hk') hd' e he hb) hI
            (fun d j hw hj hp => act_eval hcd hw hj v D hp) (fun d hw hp => act_base hcd hw v D hp) (fun _ => rfl)
          have hmore : (fun j => (listed.setIfInBounds i true).getD j false) = more (fun j => listed.getD j false) i := by
            funext j
            unfold more
            by_cases e : i = j
            · subst e; simp [hi']
            · have : (j == i) = false := by simp; omega
              rw [Array.getD_eq_getD_getElem?, Array.getElem?_setIfInBounds_ne e, ← Array.getD_eq_getD_getElem?, this, Bool.or_false]
          unfold wpOp
          rw [hoi]
          dsimp only
          rw [if_pos (by simp [Region.wanted, hgd i o ho him])]
          refine .inl (wp_of_out (outR_mono (fun x W' hJ' => ?_) hst))
          rw [act_put hcd ho hin, ← hmore]
          refine ih (listed.setIfInBounds i true) (updV v i x) W' (by simp [hs]) ?_ (fun j hj => by
              rw [Array.getD_eq_getD_getElem?, Array.getElem?_setIfInBounds_ne (by omega), ← Array.getD_eq_getD_getElem?]; exact hnt j hj) ?_ (by rw [hmore]; exact hJ')
          · have hmem : i ∈ (List.range l.length).filter fun j => !listed.getD j false := List.mem_filter.2 ⟨List.mem_range.2 hlt, by simp [hin]⟩
            have hnd : ((List.range l.length).filter fun j => !listed.getD j false).Nodup := List.nodup_range.filter _
            have hfe : ((List.range l.length).filter fun j => !(listed.setIfInBounds i true).getD j false) = ((List.range l.length).filter fun j => !listed.getD j false).erase i := by
              rw [hnd.erase_eq_filter, List.filter_filter]
              refine List.filter_congr fun j _ => ?_
              have := congrFun hmore j
              rw [this]
              unfold more
              dsimp only
              generalize listed.getD j false = b
              cases b <;> by_cases e : j = i <;> simp [e, bne]
            rw [hfe, List.length_erase_of_mem hmem, hf]; omega
          · intro j oj hoj hl2 e he hbe
            by_cases hij : i = j
            · subst hij
              have : oj = o := Option.some.inj (hoj.symm.trans hoi)
              subst this
              exact getD_set_true (hd e he hbe)
            · rw [getD_set_ne false hij] at hl2
              exact getD_set_true (hcl j oj hoj hl2 e he hbe)
  refine wp_region_any hm ?_
  have hf0 : ∀ j, (Array.replicate l.toArray.size false).getD j false = false := fun j => by
    rw [Array.getD_eq_getD_getElem?, Array.getElem?_replicate]; split <;> rfl
  have hdn : (fun j => (Array.replicate l.toArray.size false).getD j false) = fun _ => false := funext hf0
  have hact : actD l (fun _ => false) (fun _ => undef) T D = { tmps := T, defers := D } := by
    unfold actD
    congr 1
    apply Array.ext_getElem?
    intro p
    by_cases hp : p < T.size
    · rw [apD_get l hcd 0 _ _ T p hp]
      split <;> simp
    · rw [Array.getElem?_eq_none (by rw [apD_size]; omega), Array.getElem?_eq_none (by omega)]
  have h := main l.toArray.size (Array.replicate l.toArray.size false) (fun _ => undef) { w with drawn := w.drawn + 1 } (by simp) (by
      rw [show ((List.range l.length).filter fun j => !(Array.replicate l.toArray.size false).getD j false) = List.range l.length by
        rw [List.filter_eq_self]; intro j _; rw [hf0]; rfl]
      simp) (fun j _ => hf0 j) (fun j oj _ hl => by rw [hf0] at hl; cases hl) (by rw [hdn]; exact hJ)
  rw [hdn, hact] at h
  exact h
end
end Go.Mix4
namespace Go.Mem
open Go Go.RowKit
section
variable {P : Program} {w w0 : World} {L : List Thing} {ρ : Operand → Value}
theorem madeCells_one (z : Value) (hz : z.cells = #[z]) (n : Nat) : madeCells z.cells (n * 1) = Array.replicate n z := by
  apply Array.ext'
  simp only [madeCells, hz, Nat.mul_one]
  apply List.ext_getElem
  · simp
  · intro i h1 h2
    simp [Nat.mod_one]
/-- 'make([]E, n)' of elements of one cell. -/
theorem exec_make1 (o : Oper) (t : TypeId) (x y : Operand) (ho : o.op = .makeSlice t x y) (e : TypeId) (i : TypeInfo) (z : Value) (bytes : Nat) (ht : P.underlying t = some (.slice e)) (hi : P.info? e = some i) (hz : i.zero = some z) (hz1 : z.cells = #[z])
    (hsize : i.size = 1) (hby : i.bytes = bytes) (n : Nat) (kl kc : IntKind) (hx : ρ x = .int kl n) (hy : ρ y = .int kc n) (hsep : Sep w0 w L) (h63 : n ≤ maxLen) (hbytes : bytes * n ≤ 281474976710656) :
    ∃ g w', (execOp ρ o).run P w = .ok (.value (.slice (some ⟨g, 0, none⟩) n n)) w' ∧ Sep w0 w' (cellsT g (Array.replicate n z) e :: L) := by
  have hb : (i.bytes : Int) * (n : Int) ≤ 281474976710656 := by
    rw [hby]
    have : ((bytes * n : Nat) : Int) ≤ 281474976710656 := by omega
    rwa [Int.natCast_mul] at this
  have h63' := h63
  simp only [maxLen] at h63'
  have hr := run_make (P := P) w t e i z ht hi hz kl kc (n : Int) (n : Int) (by omega) (Int.le_refl _) hb (by omega)
  simp only [Int.toNat_natCast, hsize, madeCells_one z hz1] at hr
  refine ⟨w.heap.size, _, ?_, hsep.newCells (Array.replicate n z) e⟩
  unfold execOp
  simp only [ho, hx, hy, Sem.run_bind, Sem.run_pure, Result.andThen_ok, hr]
/-- 'make([]int, n)'. -/
theorem exec_makeInts (o : Oper) (t : TypeId) (x y : Operand) (ho : o.op = .makeSlice t x y) (e : TypeId) (i : TypeInfo) (k : IntKind) (bytes : Nat) (ht : P.underlying t = some (.slice e)) (hi : P.info? e = some i) (hz : i.zero = some (.int k 0))
    (hsize : i.size = 1) (hby : i.bytes = bytes) (n : Nat) (kl kc : IntKind) (hx : ρ x = .int kl n) (hy : ρ y = .int kc n) (hsep : Sep w0 w L) (h63 : n ≤ maxLen) (hbytes : bytes * n ≤ 281474976710656) :
    ∃ g w', (execOp ρ o).run P w = .ok (.value (.slice (some ⟨g, 0, none⟩) n n)) w' ∧ Sep w0 w' (intsT k e (.slice (some ⟨g, 0, none⟩) n n) (List.replicate n 0) :: L) := by
  have hb : (i.bytes : Int) * (n : Int) ≤ 281474976710656 := by
    rw [hby]
    have : ((bytes * n : Nat) : Int) ≤ 281474976710656 := by omega
    rwa [Int.natCast_mul] at this
  have h63' := h63
  simp only [maxLen] at h63'
  have hr := run_make (P := P) w t e i (.int k 0) ht hi hz kl kc (n : Int) (n : Int) (by omega) (Int.le_refl _) hb (by omega)
  simp only [Int.toNat_natCast, hsize, madeCells_int] at hr
  have hs := hsep.litInts k e (List.replicate n 0) (by simpa using h63)
  simp only [List.length_replicate] at hs
  refine ⟨w.heap.size, _, ?_, hs⟩
  unfold execOp
  simp only [ho, hx, hy, Sem.run_bind, Sem.run_pure, Result.andThen_ok, hr]
end
end Go.Mem
namespace Go.Mem
open Go Go.RowKit
section
variable {P : Program} {w w0 : World} {L : List Thing} {ρ : Operand → Value}
/-- 's = append(s, xs...)' of integers. -/
theorem exec_appRd (o : Oper) (s x : Operand) (t : TypeId)
    (ho : o.op = .call { callee := .builtin .append, args := #[s, x], argTypes := #[t, t] })
    (e : TypeId) (i : TypeInfo) (z : Value) (bytes : Nat) (ht : P.underlying t = some (.slice e)) (hi : P.info? e = some i) (hz : i.zero = some z)
    (hsize : i.size = 1) (hby : i.bytes = bytes) (hzs : z.cells.size = 1)
    (v : Value) (zs : List Int) (k : IntKind) (y : Value) (ys : List Int) (hsep : Sep w0 w L) (j : Nat) (hj : L[j]? = some (intsT k e v zs)) (hr : Rd k w y ys)
    (hs : ρ s = v) (hx : ρ x = y) (h63 : zs.length + ys.length ≤ maxLen) (hbytes : (zs.length + ys.length) * bytes ≤ 140737488355328) :
    ∃ v' w', (execOp ρ o).run P w = .ok (.value v') w' ∧ Sep w0 w' (L.set j (intsT k e v' (zs ++ ys))) := by
  have hown := hsep.ints j hj
  unfold IOwn at hown
  obtain ⟨ad, cap, rfl, hlm, hnc, hc⟩ := hr
  match ad, hnc, hc with
  | none, hnc, hc =>
    have hc0 := hnc rfl
    have hy0 : ys = [] := by
      rcases ys with _ | ⟨q, ys⟩
      · rfl
      · obtain ⟨b, off, e, _⟩ := hc (by simp); cases e
    subst hy0; subst hc0
    have hr := run_append_none (P := P) t o.type e i 1 ht hi v zs.length _ hown
    refine ⟨v, w, ?_, ?_⟩
    · unfold execOp
      simp only [ho, resolve, invoke, builtin, Sem.run_bind, Sem.run_pure, Result.andThen_ok, List.map_toArray, List.map_cons, List.map_nil, hs, hx, List.length_nil, hr]
    · rw [List.append_nil]
      have : L.set j (intsT k e v zs) = L := by obtain ⟨hlt, he⟩ := List.getElem?_eq_some_iff.1 hj; rw [← he]; exact List.set_getElem_self _
      rw [this]; exact hsep
  | some ad, hnc, hc =>
    have hnews : ∀ j u, (ys.map (Value.int k))[j]? = some u → w.cell? (ad.add j) = some u := by
      intro j u hu
      have hj : j < ys.length := by have := (List.getElem?_eq_some_iff.1 hu).1; simpa using this
      obtain ⟨b, off, e, hb, hcell⟩ := hc (by omega)
      injection e with e
      subst e
      have hadd : (⟨b, off, none⟩ : Addr).add j = ⟨b, off + j, none⟩ := by unfold Addr.add; split <;> simp_all
      rw [hadd, hcell j hj]
      simpa [hj] using hu
    obtain ⟨v', w', hr, hA⟩ := run_append (P := P) (w := w) t o.type e i z 1 bytes ht hi hz hsize hby hzs (by omega) v zs.length _ hown ad ys.length cap (ys.map (Value.int k)) (by simp) hnews
      (by intro u hu; obtain ⟨q, _, rfl⟩ := List.mem_map.1 hu; rfl) h63 hbytes
    refine ⟨v', w', ?_, hsep.turn j hj fun S hS => ⟨Blk v', ⟨rfl, ?_⟩, by rw [hS.1]; exact hA.fr, by rw [hS.1]; exact hA.block⟩⟩
    · unfold execOp
      simp only [ho, resolve, invoke, builtin, Sem.run_bind, Sem.run_pure, Result.andThen_ok, List.map_toArray, List.map_cons, List.map_nil, hs, hx, hr]
    · unfold IOwn
      simpa using hA.own
theorem outR_of {K : Value → World → Prop} {r : Result Next} {v : Value} {w' : World} (h : r = .ok (.value v) w') (hk : K v w') : Mix4.outR P K r := by rw [h]; exact hk
end
end Go.Mem
namespace Go.Mem
open Go Go.RowKit
/-- A block with this object. -/
def defT (D : Nat) (o : Obj) : Thing where
  is w S := S = (· = D) ∧ w.heap[D]? = some o
  low := by rintro w S ⟨rfl, h⟩ k rfl; exact lt_of h
  stay := by
    rintro w w' S T ⟨rfl, h⟩ hf hd
    exact ⟨rfl, (hf.block D (lt_of h) (hd D rfl)).trans h⟩
theorem Sep.obj_ {w0 w : World} {L : List Thing} {D : Nat} {o : Obj} (h : Sep w0 w L) (i : Nat) (hi : L[i]? = some (defT D o)) : w.heap[D]? = some o := let ⟨_, h⟩ := h.at i hi; h.2
theorem Sep.addObj {w0 w : World} {L : List Thing} {D : Nat} {o : Obj} (h : Sep w0 w L) (hc : ∀ A ∈ L, A.Cells) (ho : w.heap[D]? = some o) (hn : o.isCells = false) (hD : w0.heap.size ≤ D) : Sep w0 w (defT D o :: L) := by
  obtain ⟨Z, rfl, hz⟩ := h.toZ
  have := SepZ.sep (w0 := w0) (w := w) (Z := (defT D o, (· = D)) :: Z) ⟨fun z hz' => ?_, ?_, fun z hz' k hk => ?_, hz.below⟩
  · exact this
  · rcases List.mem_cons.1 hz' with rfl | hz'
    · exact ⟨rfl, ho⟩
    · exact hz.is z hz'
  · refine List.pairwise_cons.2 ⟨fun b hb k hk hk' => ?_, hz.dis⟩
    dsimp only at hk
    subst hk
    obtain ⟨o', h1, h2⟩ := hc b.1 (List.mem_map.2 ⟨b, hb, rfl⟩) w b.2 (hz.is b hb) k hk'
    rw [ho] at h1; cases h1; rw [hn] at h2; cases h2
  · rcases List.mem_cons.1 hz' with rfl | hz'
    · dsimp only at hk; subst hk; exact ⟨hD, lt_of ho⟩
    · exact hz.rng z hz' k hk
theorem fr_putObj (w : World) (D : Nat) (o : Obj) : Fr (· = D) w (w.putObj D o) := Fr.grown (grownBy_putObj' w D o) (fun k hk => by cases hk; rfl)
/-- The block turns. -/
theorem Sep.putD {w0 w : World} {L : List Thing} {D : Nat} {o o' : Obj} (h : Sep w0 w L) (i : Nat) (hi : L[i]? = some (defT D o)) : Sep w0 (w.putObj D o') (L.set i (defT D o')) := by
  refine h.turn i hi (B := defT D o') fun S hS => ?_
  obtain ⟨rfl, hd⟩ := hS
  refine ⟨(· = D), ⟨rfl, ?_⟩, Turn.of (fr_putObj w D o')⟩
  have hlt := lt_of hd
  unfold World.putObj
  simp [hlt]
end Go.Mem
