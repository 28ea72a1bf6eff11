/-
  A map from numbers to records that the call has made, as a thing in memory: a new entry, a range over all. Plain lemmas.
-/
import Derived.Test.YthcmkljdhhepgaaLA
import Derived.Maps.Range
import Derived.Maps.RangeWalk
import Derived.WideKeyEntry
import Derived.WalkKit
set_option linter.unusedVariables false
set_option linter.unusedSimpArgs false
namespace Go.Mem
open Go Go.RowKit Go.Maps Go.MapKept Go.ChangeMaps

section
variable {α : Type} (kk : IntKind) (kf : α → Int) (vf : α → Value)
def entsOf (es : Array MapEntry) : List (Value × Value) := es.toList.map fun e => (e.key, e.val)
def pairsOf (xs : List α) : List (Value × Value) := xs.map fun d => (Value.int kk (kf d), vf d)
/-- A map in block b: its entries, in the order in which they came. -/
def dmapT (b : Nat) (xs : List α) : Thing where
  is w S := S = (· = b) ∧ ∃ es clock, w.heap[b]? = some (.map es clock) ∧ Stamped es clock ∧ entsOf es = pairsOf kk kf vf xs ∧ ∀ d ∈ xs, (Lit.int kk (kf d)).wf = true
  low := by rintro w S ⟨rfl, es, clock, h, _⟩ k rfl; exact (Array.getElem?_eq_some_iff.1 h).1
  stay := by
    rintro w w' S T ⟨rfl, es, clock, h, r⟩ hf hd
    exact ⟨rfl, es, clock, (hf.block b (Array.getElem?_eq_some_iff.1 h).1 (hd b rfl)).trans h, r⟩
/-- .. with an entry more, that is still to be filled. -/
def midT (b : Nat) (xs : List α) (id : Int) (z : Value) (clock : Nat) : Thing where
  is w S := S = (· = b) ∧ ∃ es : Array MapEntry, w.heap[b]? = some (.map (es.push ⟨.int kk id, z, clock⟩) (clock + 1)) ∧ Stamped es clock ∧ entsOf es = pairsOf kk kf vf xs ∧ (∀ d ∈ xs, (Lit.int kk (kf d)).wf = true) ∧ (Lit.int kk id).wf = true ∧ ∀ x ∈ es.toList, x.key ≠ .int kk id
  low := by rintro w S ⟨rfl, es, h, _⟩ k rfl; exact (Array.getElem?_eq_some_iff.1 h).1
  stay := by
    rintro w w' S T ⟨rfl, es, h, r⟩ hf hd
    exact ⟨rfl, es, (hf.block b (Array.getElem?_eq_some_iff.1 h).1 (hd b rfl)).trans h, r⟩
/-- .. ranged over: the iterator in block r; 'left': those to come. -/
def rangeT (b r : Nat) (xs left : List α) : Thing where
  is w S := S = (fun k => k = b ∨ k = r) ∧ r ≠ b ∧ ∃ es clock since seen c0, w.heap[b]? = some (.map es clock) ∧ Stamped es clock ∧ entsOf es = pairsOf kk kf vf xs ∧ (∀ d ∈ xs, (Lit.int kk (kf d)).wf = true) ∧
    w.heap[r]? = some (.mapIter (some b) since seen c0) ∧ (∀ x ∈ es.toList, x.born < since) ∧ since ≤ c0 ∧ since ≤ clock ∧ entsOf (leftOf es seen) = pairsOf kk kf vf left
  low := by
    rintro w S ⟨rfl, _, es, clock, since, seen, c0, h, _, _, _, h2, _⟩ k (rfl | rfl)
    · exact (Array.getElem?_eq_some_iff.1 h).1
    · exact (Array.getElem?_eq_some_iff.1 h2).1
  stay := by
    rintro w w' S T ⟨rfl, hne, es, clock, since, seen, c0, h, h1, h3, h4, h2, r⟩ hf hd
    exact ⟨rfl, hne, es, clock, since, seen, c0, (hf.block b (Array.getElem?_eq_some_iff.1 h).1 (hd b (.inl rfl))).trans h, h1, h3, h4, (hf.block _ (Array.getElem?_eq_some_iff.1 h2).1 (hd _ (.inr rfl))).trans h2, r⟩
end
section
variable {α : Type} {kk : IntKind} {kf : α → Int} {vf : α → Value} {P : Program} {w0 w : World} {L : List Thing} {xs left : List α} {b r : Nat} {t k e ty : TypeId}
theorem Fr.setBlock {S : Nat → Prop} {w : World} {b : Nat} {o o' : Obj} (h : w.heap[b]? = some o) (hb : S b) : Fr S w (setBlock w b o') := by
  have hs := heap_set (o' := o') h
  exact ⟨rfl, rfl, rfl, by simp [Go.ChangeMaps.setBlock], fun j _ hj => hs.2 j (fun e => hj (e ▸ hb))⟩
theorem Sep.newDMap (h : Sep w0 w L) (kk : IntKind) (kf : α → Int) (vf : α → Value) : Sep w0 (w.alloc (.map #[] 0)) (dmapT kk kf vf w.heap.size [] :: L) :=
  h.consNew (Fr.alloc _ _) ⟨rfl, #[], 0, Go.heap_alloc_new w _, stamped_empty 0, rfl, fun d hd => by simp at hd⟩ (fun _ hk => Nat.le_of_eq (Eq.symm hk))
theorem ents_key {es : Array MapEntry} (h : entsOf es = pairsOf kk kf vf xs) : ∀ x ∈ es.toList, ∃ d ∈ xs, x.key = .int kk (kf d) ∧ x.val = vf d := by
  intro x hx
  have : (x.key, x.val) ∈ entsOf es := List.mem_map.2 ⟨x, hx, rfl⟩
  rw [h] at this
  obtain ⟨d, hd, e⟩ := List.mem_map.1 this
  injection e with e1 e2
  exact ⟨d, hd, e1.symm, e2.symm⟩
/-- A place for a new entry. -/
theorem Sep.entryNew (h : Sep w0 w L) (i : Nat) (hi : L[i]? = some (dmapT kk kf vf b xs)) (K : Keyed P k) (hk : P.underlying k = some (.int kk)) (ht : P.underlying t = some (.map k e)) {z : Value} (hz : ∀ u : World, (zeroValue e).run P u = .ok z u) (id : Int) (hw : (Lit.int kk id).wf = true) (hn : ∀ d ∈ xs, kf d ≠ id) :
    ∃ (clock : Nat) (w' : World), (Instr.mapEntry t (.map (some b)) (.int kk id)).run P w = .ok (.tuple #[z, goInt clock]) w' ∧ Sep w0 w' (L.set i (midT kk kf vf b xs id z clock)) := by
  obtain ⟨S, ⟨hS, es, clock, hb, hst, he, hwf⟩, hu⟩ := h.use i hi
  have hkey := keyOf_int_mk (P := P) hk hw
  have hkeys : ∀ x ∈ es.toList, ∃ l, keyOf P k x.key = some l := fun x hx => by
    obtain ⟨d, hd, e1, _⟩ := ents_key he x hx
    exact ⟨_, by rw [e1]; exact keyOf_int_mk (P := P) hk (hwf d hd)⟩
  have hne : ∀ x ∈ es.toList, x.key ≠ .int kk id := fun x hx e1 => by
    obtain ⟨d, hd, e2, _⟩ := ents_key he x hx
    rw [e2] at e1
    injection e1 with _ e3
    exact hn d hd e3
  rcases K.find w hkey es.toList hkeys with ⟨h1, _⟩ | ⟨j, e0, _, h2, h3⟩
  · refine ⟨clock, setBlock w b (.map (es.push ⟨.int kk id, z, clock⟩) (clock + 1)), ?_, ?_⟩
    · simp [Instr.mapEntry, run_underlying ht, MapKept.run_getObj_map hb, K.check w false hkey, h1, hz, MapKept.run_setObj_map _ hb, Result.andThen, Go.ChangeMaps.setBlock]
    · exact hu _ _ S ⟨hS, es, (heap_set hb).1, hst, he, hwf, hw, hne⟩ ⟨Fr.setBlock hb (by rw [hS]), fun j hj => .inl hj⟩
  · exact absurd h3 (hne e0 (List.mem_of_getElem? h2))
/-- .. filled. -/
theorem Sep.entryFill (h : Sep w0 w L) (i : Nat) (d : α) {z : Value} {clock : Nat} (hi : L[i]? = some (midT kk kf vf b xs (kf d) z clock)) :
    ∃ w', (Instr.entryStore t (.map (some b)) (goInt clock) (vf d)).run P w = .ok () w' ∧ Sep w0 w' (L.set i (dmapT kk kf vf b (xs ++ [d]))) := by
  obtain ⟨S, ⟨hS, es, hb, hst, he, hwf, hw, hne⟩, hu⟩ := h.use i hi
  obtain ⟨s1, s2, s3⟩ := hst
  have hidx : (es.push ⟨.int kk (kf d), z, clock⟩).findIdx? (fun e => ((e.born : Nat) : Int) == ((clock : Nat) : Int)) = some es.size := by
    rw [Go.WideElems.findIdx_arr]
    have := Go.WideElems.findIdx_born (l := (es.push ⟨.int kk (kf d), z, clock⟩).toList) (j := es.size) (e0 := ⟨.int kk (kf d), z, clock⟩) (by
      simp only [Array.toList_push, List.map_append, List.map_cons, List.map_nil]
      refine List.nodup_append.2 ⟨s2, by simp, fun a ha c hc e1 => ?_⟩
      simp only [List.mem_singleton] at hc
      obtain ⟨x, hx, rfl⟩ := List.mem_map.1 ha
      have := s1 x hx
      omega) (by simp)
    exact this
  have hmod : (es.push ⟨.int kk (kf d), z, clock⟩).modify es.size (fun e => { e with val := vf d }) = es.push ⟨.int kk (kf d), vf d, clock⟩ := by
    apply Array.ext'
    rw [Array.toList_modify, Array.toList_push, Array.toList_push, ← Array.length_toList, Go.WideElems.modify_last]
  refine ⟨setBlock w b (.map (es.push ⟨.int kk (kf d), vf d, clock⟩) (clock + 1)), ?_, ?_⟩
  · simp [Instr.entryStore, MapKept.run_getObj_map hb, asInt, asIntOf, goInt, hidx, hmod, MapKept.run_setObj_map _ hb, Result.andThen, Go.ChangeMaps.setBlock]
  · refine hu _ _ S ⟨hS, es.push ⟨.int kk (kf d), vf d, clock⟩, clock + 1, (heap_set hb).1, stamped_push ⟨s1, s2, s3⟩ hne, ?_, fun q hq => ?_⟩ ⟨Fr.setBlock hb (by rw [hS]), fun j hj => .inl hj⟩
    · unfold entsOf pairsOf at *
      rw [Array.toList_push, List.map_append, List.map_append, he]
      rfl
    · rcases List.mem_append.1 hq with hq | hq
      · exact hwf q hq
      · rw [List.mem_singleton.1 hq]; exact hw
/-- 'range m'. -/
theorem Sep.rangeNew (h : Sep w0 w L) (i : Nat) (hi : L[i]? = some (dmapT kk kf vf b xs)) (ht : P.underlying t = some (.map k e)) :
    ∃ w', (Instr.range t (.map (some b))).run P w = .ok (.pointer (some ⟨w.heap.size, 0, none⟩)) w' ∧ w'.heap.size = w.heap.size + 1 ∧ Sep w0 w' (L.set i (rangeT kk kf vf b w.heap.size xs xs)) := by
  obtain ⟨S, ⟨hS, es, clock, hb, hst, he, hwf⟩, hu⟩ := h.use i hi
  have hlt : b < w.heap.size := (Array.getElem?_eq_some_iff.1 hb).1
  refine ⟨_, run_range_map w t k e b es clock ht hb, by simp, hu _ _ (fun j => j = b ∨ j = w.heap.size) ⟨rfl, by omega, es, clock, clock, #[], clock, ((MapKept.heap_alloc w _).2 b hlt).trans hb, hst, he, hwf, (MapKept.heap_alloc w _).1, hst.1, Nat.le_refl _, Nat.le_refl _, ?_⟩ ⟨Fr.alloc w _, fun j hj => ?_⟩⟩
  · have : leftOf es #[] = es := by simp [leftOf]
    rw [this]; exact he
  · rcases hj with rfl | rfl
    · exact .inl (by rw [hS])
    · exact .inr (Nat.le_refl _)
/-- 'next': nothing is left, or one of those that are left comes. -/
theorem Sep.rangeNext (h : Sep w0 w L) (i : Nat) (hi : L[i]? = some (rangeT kk kf vf b r xs left)) (ty : TypeId) :
    (left = [] ∧ (Instr.next (.pointer (some ⟨r, 0, none⟩)) false ty).run P w = .ok (.tuple #[.bool false]) w) ∨
    ∃ d left' w', left.Perm (d :: left') ∧ (Instr.next (.pointer (some ⟨r, 0, none⟩)) false ty).run P w = .ok (.tuple #[.bool true, .int kk (kf d), vf d]) w' ∧ w'.heap.size = w.heap.size ∧
      (Instr.entry (.pointer (some ⟨r, 0, none⟩))).run P w' = .ok (.tuple #[.int kk (kf d), vf d]) w' ∧ Sep w0 w' (L.set i (rangeT kk kf vf b r xs left')) := by
  obtain ⟨S, ⟨hS, hne, es, clock, since, seen, c0, hb, hst, he, hwf, hr, hold, hsc, hsk, hl⟩, hu⟩ := h.use i hi
  rcases run_next_at (P := P) w ty r b since c0 seen es clock hr hb hold hsc with ⟨h0, hrun⟩ | ⟨x, hx, w1, hal, hrun⟩
  · refine .inl ⟨?_, hrun⟩
    have h2 : leftOf es seen = #[] := Array.eq_empty_of_size_eq_zero h0
    rw [h2] at hl
    cases left with
    | nil => rfl
    | cons a t => simp [entsOf, pairsOf] at hl
  · obtain ⟨hem, hes⟩ := mem_left hx
    have hr1 : w1.heap[r]? = some (.mapIter (some b) since seen c0) := by rcases hal with rfl | rfl <;> exact hr
    have hb1 : w1.heap[b]? = some (.map es clock) := by rcases hal with rfl | rfl <;> exact hb
    have hset := heap_set (o' := .mapIter (some b) since (seen.push x.born) clock) hr1
    have hb' : (setBlock w1 r (.mapIter (some b) since (seen.push x.born) clock)).heap[b]? = some (.map es clock) := (hset.2 b (fun e1 => hne e1.symm)).trans hb1
    -- the one that came, struck from those that are left
    have key : ∃ d l1 l2, left = l1 ++ d :: l2 ∧ x.key = .int kk (kf d) ∧ x.val = vf d ∧ entsOf (leftOf es (seen.push x.born)) = pairsOf kk kf vf (l1 ++ l2) := by
      have hnd : ((leftOf es seen).toList.map (·.born)).Nodup := by
        have : (leftOf es seen).toList.Sublist es.toList := by unfold leftOf; rw [Array.toList_filter]; exact List.filter_sublist
        exact (this.map _).nodup hst.2.1
      have hpush : (leftOf es (seen.push x.born)).toList = (leftOf es seen).toList.filter fun e => !(e.born == x.born) := by
        unfold leftOf
        rw [Array.toList_filter, Array.toList_filter, List.filter_filter]
        apply List.filter_congr
        intro y _
        rw [contains_push]
        cases seen.contains y.born <;> cases (y.born == x.born) <;> rfl
      obtain ⟨m1, m2, hm⟩ := List.append_of_mem hx
      unfold entsOf at hl ⊢
      rw [hpush]
      rw [hm] at hl hnd ⊢
      have hf1 : ∀ y ∈ m1, y.born ≠ x.born := fun y hy e1 => by
        rw [List.map_append, List.nodup_append] at hnd
        exact hnd.2.2 _ (List.mem_map.2 ⟨y, hy, rfl⟩) _ (by simp) e1
      have hf2 : ∀ y ∈ m2, y.born ≠ x.born := fun y hy e1 => by
        rw [List.map_append, List.nodup_append] at hnd
        have := (List.nodup_cons.1 hnd.2.1).1
        exact this (List.mem_map.2 ⟨y, hy, e1⟩)
      rw [List.map_append, List.map_cons] at hl
      unfold pairsOf at hl ⊢
      obtain ⟨l1, l2, hl0, h1, h2⟩ := List.map_eq_append_iff.1 hl.symm
      obtain ⟨d, l3, hl3, h3, h4⟩ := List.map_eq_cons_iff.1 h2
      subst hl3
      injection h3 with h5 h6
      refine ⟨d, l1, l3, hl0, h5.symm, h6.symm, ?_⟩
      have e1 : m1.filter (fun e => !(e.born == x.born)) = m1 := List.filter_eq_self.2 fun y hy => by simpa using hf1 y hy
      have e2 : m2.filter (fun e => !(e.born == x.born)) = m2 := List.filter_eq_self.2 fun y hy => by simpa using hf2 y hy
      rw [List.filter_append, List.filter_cons, e1, e2]
      simp only [beq_self_eq_true, Bool.not_true, Bool.false_eq_true, if_false]
      rw [List.map_append, List.map_append, h1, h4]
    obtain ⟨d, l1, l2, hl0, hk1, hv1, hl2⟩ := key
    have hent := run_entry_at (P := P) (setBlock w1 r (.mapIter (some b) since (seen.push x.born) clock)) r b since seen es clock x hset.1 hb' hem hst.2.1
    rw [hk1, hv1] at hrun hent
    refine .inr ⟨d, l1 ++ l2, _, by rw [hl0]; exact List.perm_middle, hrun, ?_, hent, hu _ _ (fun j => j = b ∨ j = r) ⟨rfl, hne, es, clock, since, seen.push x.born, clock, hb', hst, he, hwf, hset.1, hold, hsk, hsk, hl2⟩ ⟨?_, fun j hj => .inl (by rw [hS]; exact hj)⟩⟩
    · rcases hal with rfl | rfl <;> simp [Go.ChangeMaps.setBlock]
    · rcases hal with rfl | rfl
      · exact Fr.setBlock hr (by rw [hS]; exact .inr rfl)
      · exact (Fr.drew w).trans (Fr.setBlock hr1 (by rw [hS]; exact .inr rfl)) (fun _ _ h => h)
theorem Sep.rangeEnd (h : Sep w0 w L) (i : Nat) (hi : L[i]? = some (rangeT kk kf vf b r xs left)) : Sep w0 w (L.set i (dmapT kk kf vf b xs)) :=
  h.swap i hi fun S hS => by
    obtain ⟨rfl, _, es, clock, _, _, _, hb, hst, he, hwf, _⟩ := hS
    exact ⟨(· = b), ⟨rfl, es, clock, hb, hst, he, hwf⟩, fun k hk => .inl hk⟩
end
section
variable {α : Type} {kk : IntKind} {kf : α → Int} {vf : α → Value} {P : Program} {w0 w : World} {L : List Thing} {xs left : List α} {b r : Nat}
variable {ops : Array Oper} {rest : List Oper} {o : Oper} {a : Act} {Q : Exit → Act → World → Prop}
theorem wpList_rangeD (hg : o.guard = none) (m : Operand) (t : TypeId) (hop : o.op = Op.range t m) (k e : TypeId) (ht : P.underlying t = some (.map k e)) (hs : Sep w0 w L) (i : Nat) (hi : L[i]? = some (dmapT kk kf vf b xs)) (hm : a.eval m = .map (some b))
    (hK : ∀ r w', Sep w0 w' (L.set i (rangeT kk kf vf b r xs xs)) → wpList P ops Q rest (a.put o.dst (.pointer (some ⟨r, 0, none⟩))) w') : wpList P ops Q (o :: rest) a w := by
  refine wpList_plain hg fun K' hK' => ?_
  obtain ⟨w', hrun, _, r1⟩ := hs.rangeNew i hi (P := P) ht
  unfold Oper.wp
  simp [execOp, hop, hm, hrun, Result.andThen]
  exact hK' _ _ (hK _ w' r1)
theorem wpList_nextD (hg : o.guard = none) (it : Operand) (hop : o.op = Op.next it false) (hs : Sep w0 w L) (i : Nat) (hi : L[i]? = some (rangeT kk kf vf b r xs left)) (hit : a.eval it = .pointer (some ⟨r, 0, none⟩))
    (hDone : left = [] → wpList P ops Q rest (a.put o.dst (.tuple #[.bool false])) w)
    (hMore : ∀ d left' w', left.Perm (d :: left') → (Instr.entry (.pointer (some ⟨r, 0, none⟩))).run P w' = .ok (.tuple #[.int kk (kf d), vf d]) w' → Sep w0 w' (L.set i (rangeT kk kf vf b r xs left')) → wpList P ops Q rest (a.put o.dst (.tuple #[.bool true, .int kk (kf d), vf d])) w') :
    wpList P ops Q (o :: rest) a w := by
  refine wpList_plain hg fun K' hK' => ?_
  unfold Oper.wp
  rcases hs.rangeNext i hi (P := P) o.type with ⟨h0, hrun⟩ | ⟨d, left', w', hp, hrun, _, hen, hs'⟩
  · simp [execOp, hop, hit, hrun, Result.andThen]
    exact hK' _ _ (hDone h0)
  · simp [execOp, hop, hit, hrun, Result.andThen]
    exact hK' _ _ (hMore d left' w' hp hen hs')
end
end Go.Mem
