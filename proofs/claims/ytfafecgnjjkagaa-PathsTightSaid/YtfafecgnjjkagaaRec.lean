/-
  Slices of records, each element of as many cells: read; and the calls' own rows of records, as things in memory. Plain lemmas.
-/
import Derived.Test.YtfafecgnjjkagaaRd
namespace Go.Mem
open Go Go.RowKit

/-- How an element lies in cells. -/
structure Rec (α : Type) where
  m : Nat
  cells : α → List Value
  len : ∀ x, (cells x).length = m
  one : ∀ x, ∀ u ∈ cells x, u.oneCell' = true
  pos : 0 < m

section
variable {α : Type} (R : Rec α)
def Rec.flat (xs : List α) : List Value := xs.flatMap R.cells
theorem Rec.flat_length (xs : List α) : (R.flat xs).length = xs.length * R.m := by
  induction xs with
  | nil => simp [Rec.flat]
  | cons x t ih => simp only [Rec.flat, List.flatMap_cons, List.length_append, R.len, List.length_cons] at ih ⊢; rw [ih, Nat.add_mul]; omega
theorem Rec.flat_get : ∀ (xs : List α) (i : Nat) (hi : i < xs.length) (j : Nat), j < R.m → (R.flat xs)[i * R.m + j]? = (R.cells xs[i])[j]?
  | [], i, hi, _, _ => by simp at hi
  | x :: t, 0, _, j, hj => by
    simp only [Rec.flat, List.flatMap_cons, Nat.zero_mul, Nat.zero_add]
    rw [List.getElem?_append_left (by rw [R.len]; exact hj)]
    rfl
  | x :: t, i + 1, hi, j, hj => by
    have := Rec.flat_get t i (by simpa using hi) j hj
    simp only [Rec.flat, List.flatMap_cons] at this ⊢
    rw [List.getElem?_append_right (by rw [R.len, Nat.add_mul]; omega), R.len, show (i + 1) * R.m + j - R.m = i * R.m + j by rw [Nat.add_mul]; omega, this]
    rfl
theorem Rec.flat_append (xs ys : List α) : R.flat (xs ++ ys) = R.flat xs ++ R.flat ys := by simp [Rec.flat]
theorem Rec.flat_one (xs : List α) : ∀ u ∈ R.flat xs, u.oneCell' = true := by
  intro u hu
  obtain ⟨x, _, hx⟩ := List.mem_flatMap.1 hu
  exact R.one x u hx

/-- A slice of records, read. -/
def RdG (w : World) (v : Value) (xs : List α) : Prop :=
  ∃ a cap, v = .slice a xs.length cap ∧ xs.length ≤ maxLen ∧ (a = none → cap = 0) ∧ (0 < xs.length → ∃ b off, a = some ⟨b, off, none⟩ ∧ b < w.heap.size ∧ ∀ (i : Nat) (hi : i < xs.length) (j : Nat), j < R.m → w.cell? ⟨b, off + i * R.m + j, none⟩ = (R.cells xs[i])[j]?)
end

section
variable {α : Type} {R : Rec α} {w w' : World} {v : Value} {xs : List α} {a : Option Addr} {n cap : Nat}
theorem RdG.at (h : RdG R w (.slice a n cap) xs) (i : Nat) (hi : i < xs.length) : ∃ b off, a = some ⟨b, off, none⟩ ∧ b < w.heap.size ∧ ∀ j, j < R.m → w.cell? ⟨b, off + i * R.m + j, none⟩ = (R.cells xs[i])[j]? := by
  obtain ⟨a', cap', e, _, _, hc⟩ := h
  injection e with e1 _ _
  obtain ⟨b, off, rfl, hb, hc⟩ := hc (by omega)
  exact ⟨b, off, e1, hb, hc i hi⟩
theorem RdG.le (h : RdG R w v xs) : xs.length ≤ maxLen := let ⟨_, _, _, h, _⟩ := h; h
theorem RdG.le' (h : RdG R w v xs) : xs.length ≤ 9223372036854775807 := by have := h.le; unfold maxLen at this; exact this
theorem RdG.shape (h : RdG R w v xs) : ∃ a cap, v = .slice a xs.length cap := let ⟨a, cap, e, _⟩ := h; ⟨a, cap, e⟩
theorem RdG.below (h : RdG R w v xs) (hb : Below w.heap.size w w') : RdG R w' v xs := by
  obtain ⟨a, cap, e, hl, hn, hc⟩ := h
  refine ⟨a, cap, e, hl, hn, fun h0 => ?_⟩
  obtain ⟨b, off, e, hlt, hc⟩ := hc h0
  exact ⟨b, off, e, Nat.lt_of_lt_of_le hlt hb.size, fun i hi j hj => (hb.cell (p := ⟨b, off + i * R.m + j, none⟩) hlt).trans (hc i hi j hj)⟩
theorem RdG.nil (R : Rec α) (w : World) : RdG R w (.slice none 0 0) [] := ⟨none, 0, rfl, by simp, fun _ => rfl, fun h => by simp at h⟩
end

/-- A row of records that the call owns. -/
def ROwn {α : Type} (R : Rec α) (E : TypeId) (w : World) (v : Value) (xs : List α) : Prop := w.ownsRow 0 E R.m v xs.length (R.flat xs)
section
variable {α : Type} {R : Rec α} {E : TypeId} {w w' : World} {v v' : Value} {xs : List α}
theorem ROwn.nil (R : Rec α) (E : TypeId) (w : World) : ROwn R E w (.slice none 0 0) [] := World.ownsRow_nil w 0 E R.m
theorem ROwn.shape (h : ROwn R E w v xs) : ∃ a cap, v = .slice a xs.length cap := by
  rcases h.2 with ⟨rfl, h0⟩ | ⟨g, cap, _, rfl, _⟩
  · exact ⟨none, 0, by rw [h0]⟩
  · exact ⟨_, _, rfl⟩
theorem ROwn.get (h : ROwn R E w v xs) (i : Nat) (hi : i < xs.length) :
    ∃ g cap, v = .slice (some ⟨g, 0, none⟩) xs.length cap ∧ g < w.heap.size ∧ (∀ (i : Nat) (hi : i < xs.length) (j : Nat), j < R.m → w.cell? ⟨g, i * R.m + j, none⟩ = (R.cells xs[i])[j]?) ∧ (∀ j, w.frozen? ⟨g, j, none⟩ = false) := by
  rcases h.2 with ⟨rfl, h0⟩ | ⟨g, cap, cur, rfl, hb, hg, rest⟩
  · omega
  · refine ⟨g, cap, rfl, lt_of hg, fun i hi j hj => ?_, fun j => frozen_of hg j⟩
    have h' : w.ownsRow 0 E R.m (.slice (some ⟨g, 0, none⟩) xs.length cap) xs.length (R.flat xs) := h
    have hb : i * R.m + j < xs.length * R.m := by
      have : (i + 1) * R.m ≤ xs.length * R.m := Nat.mul_le_mul_right _ hi
      rw [Nat.add_mul] at this; omega
    rw [h'.cellAt _ hb, R.flat_get xs i hi j hj]
theorem ROwn.rd (h : ROwn R E w v xs) : RdG R w v xs := by
  have hg := h.get
  rcases h.2 with ⟨rfl, h0⟩ | ⟨g, cap, cur, rfl, hb, hgg, hnc, hcm, rest⟩
  · obtain rfl : xs = [] := List.eq_nil_of_length_eq_zero h0
    exact RdG.nil R w
  · refine ⟨some ⟨g, 0, none⟩, cap, rfl, by omega, by simp, fun h0 => ?_⟩
    obtain ⟨g', cap', e, hb, hc, _⟩ := hg 0 h0
    injection e with e1 _ _
    refine ⟨g', 0, e1, hb, fun i hi j hj => ?_⟩
    rw [Nat.zero_add]; exact hc i hi j hj
end
/-- A row of records that the call owns, as a thing in memory. -/
def recT {α : Type} (R : Rec α) (E : TypeId) (v : Value) (xs : List α) : Thing where
  is w S := S = Blk v ∧ ROwn R E w v xs
  low := by rintro w S ⟨rfl, h⟩ j hj; exact (World.ownsRow.lt h j hj).2
  stay := by rintro w w' S T ⟨rfl, h⟩ hf hd; exact ⟨rfl, owns_frame h hf hd⟩
section
variable {α : Type} {R : Rec α} {E : TypeId} {w0 w w' : World} {L : List Thing} {v v' : Value} {xs : List α}
theorem Sep.recs (h : Sep w0 w L) (i : Nat) (hi : L[i]? = some (recT R E v xs)) : ROwn R E w v xs := let ⟨_, h⟩ := h.at i hi; h.2
theorem Sep.rdRecs (h : Sep w0 w L) (i : Nat) (hi : L[i]? = some (recT R E v xs)) : RdG R w v xs := (h.recs i hi).rd
theorem Sep.rdG (h : Sep w0 w L) (hr : RdG R w0 v xs) : RdG R w v xs := hr.below h.below
theorem Sep.nilRecs (h : Sep w0 w L) (R : Rec α) (E : TypeId) : Sep w0 w (recT R E (.slice none 0 0) [] :: L) :=
  h.bare ⟨funext fun j => by simp [Blk, Value.ownBlock], ROwn.nil R E w⟩
/-- A row of records that has just been laid. -/
theorem Sep.litRecs (h : Sep w0 w L) (R : Rec α) (E : TypeId) (xs : List α) (hl : xs.length ≤ maxLen) :
    Sep w0 (w.alloc (.cells (R.flat xs).toArray E)) (recT R E (.slice (some ⟨w.heap.size, 0, none⟩) xs.length xs.length) xs :: L) := by
  refine h.consNew (S := Blk (.slice (some ⟨w.heap.size, 0, none⟩) xs.length xs.length)) (Fr.alloc _ _) ⟨rfl, ?_⟩ (fun j hj => ?_)
  · refine ⟨R.flat_length xs, .inr ⟨w.heap.size, xs.length, _, rfl, Nat.zero_le _, heap_alloc_new w _, Nat.le_refl _, hl, by simp [R.flat_length], ?_⟩⟩
    rw [List.take_of_length_le] <;> simp [R.flat_length]
  · simp [Blk, Value.ownBlock] at hj; omega
theorem Sep.appRecs (h : Sep w0 w L) (i : Nat) (hi : L[i]? = some (recT R E v xs)) {ys : List α} {n : Nat} (hn : n = xs.length + ys.length)
    (hA : Appended w w' E R.m v v' n (R.flat xs ++ R.flat ys)) : Sep w0 w' (L.set i (recT R E v' (xs ++ ys))) :=
  h.turn i hi fun S hS => ⟨Blk v', ⟨rfl, by unfold ROwn; rw [R.flat_append, List.length_append, ← hn]; exact hA.own⟩, by rw [hS.1]; exact hA.fr, by rw [hS.1]; exact hA.block⟩
end

section
variable {P : Program} {w0 w : World} {L : List Thing} {α : Type}
/-- 's = append(s, x)' of records: ONE MORE; x lies in block B. -/
theorem wpList_appRecB {ops : Array Oper} {rest : List Oper} {o : Oper} {a : Act} {Q : Exit → Act → World → Prop} (R : Rec α) (hgd : o.guard = none) (s x : Operand) (t : TypeId)
    (ho : o.op = .call { callee := .builtin .append, args := #[s, x], argTypes := #[t, t] })
    (e : TypeId) (i : TypeInfo) (z : Value) (bytes : Nat) (ht : P.underlying t = some (.slice e)) (hi : P.info? e = some i) (hz : i.zero = some z)
    (hsize : i.size = R.m) (hby : i.bytes = bytes) (hzs : z.cells.size = R.m)
    (v : Value) (xs : List α) (q : α) (hsep : Sep w0 w L) (j : Nat) (hj : L[j]? = some (recT R e v xs)) (B : Nat) (cs : Array Value) (hcs : cs = (R.cells q).toArray) (hB : w.heap[B]? = some (.cells cs e (0, 0)))
    (hs : a.eval s = v) (hx : a.eval x = .slice (some ⟨B, 0, none⟩) 1 1)
    (h63 : xs.length + 1 ≤ maxLen) (hbytes : (xs.length + 1) * bytes ≤ 140737488355328)
    (h : ∀ v' w', Sep w0 w' (L.set j (recT R e v' (xs ++ [q]))) → Hid (∃ g cap, v' = .slice (some ⟨g, 0, none⟩) (xs.length + 1) cap) → wpList P ops Q rest (a.put o.dst v') w') :
    wpList P ops Q (o :: rest) a w := by
  subst hcs
  have hown := hsep.recs j hj
  unfold ROwn at hown
  refine wpList_append1 hgd s x t ho e i z R.m bytes ht hi hz hsize hby hzs R.pos v xs.length _ hs hown B _ _ _ hx hB (by simp [R.len]) (by simpa using R.one q) h63 hbytes ?_
  intro v' w' hA
  refine h v' w' (hsep.appRecs j hj (ys := [q]) (n := xs.length + 1) rfl ?_) (hA.shape (by omega))
  simpa [Rec.flat] using hA
theorem wpList_appRec {ops : Array Oper} {rest : List Oper} {o : Oper} {a : Act} {Q : Exit → Act → World → Prop} (R : Rec α) (hgd : o.guard = none) (s x : Operand) (t : TypeId)
    (ho : o.op = .call { callee := .builtin .append, args := #[s, x], argTypes := #[t, t] })
    (e : TypeId) (i : TypeInfo) (z : Value) (bytes : Nat) (ht : P.underlying t = some (.slice e)) (hi : P.info? e = some i) (hz : i.zero = some z)
    (hsize : i.size = R.m) (hby : i.bytes = bytes) (hzs : z.cells.size = R.m)
    (v : Value) (xs : List α) (q : α) (hsep : Sep w0 w L) (j : Nat) (hj : L[j]? = some (recT R e v xs)) (cs : Array Value) (hcs : cs = (R.cells q).toArray)
    (hs : a.eval s = v) (hx : a.eval x = .slice (some ⟨w.heap.size, 0, none⟩) 1 1)
    (h63 : xs.length + 1 ≤ maxLen) (hbytes : (xs.length + 1) * bytes ≤ 140737488355328)
    (h : ∀ v' w', Sep w0 w' (L.set j (recT R e v' (xs ++ [q]))) → Hid (∃ g cap, v' = .slice (some ⟨g, 0, none⟩) (xs.length + 1) cap) → wpList P ops Q rest (a.put o.dst v') w') :
    wpList P ops Q (o :: rest) a (w.alloc (.cells cs e)) :=
  wpList_appRecB R hgd s x t ho e i z bytes ht hi hz hsize hby hzs v xs q (hsep.alloc _) j hj w.heap.size cs hcs (heap_alloc_new w _) hs hx h63 hbytes h
/-- 's = append(s, xs...)' of records. -/
theorem wpList_appRdG {ops : Array Oper} {rest : List Oper} {o : Oper} {a : Act} {Q : Exit → Act → World → Prop} (R : Rec α) (hgd : o.guard = none) (s x : Operand) (t : TypeId)
    (ho : o.op = .call { callee := .builtin .append, args := #[s, x], argTypes := #[t, t] })
    (e : TypeId) (i : TypeInfo) (z : Value) (bytes : Nat) (ht : P.underlying t = some (.slice e)) (hi : P.info? e = some i) (hz : i.zero = some z)
    (hsize : i.size = R.m) (hby : i.bytes = bytes) (hzs : z.cells.size = R.m)
    (v : Value) (xs : List α) (y : Value) (ys : List α) (hsep : Sep w0 w L) (j : Nat) (hj : L[j]? = some (recT R e v xs)) (hr : RdG R w y ys)
    (hs : a.eval s = v) (hx : a.eval x = y)
    (h63 : xs.length + ys.length ≤ maxLen) (hbytes : (xs.length + ys.length) * bytes ≤ 140737488355328)
    (h : ∀ v' w', Sep w0 w' (L.set j (recT R e v' (xs ++ ys))) → wpList P ops Q rest (a.put o.dst v') w') :
    wpList P ops Q (o :: rest) a w := by
  refine wpList_plain hgd fun K hK => ?_
  have hown := hsep.recs j hj
  unfold ROwn at hown
  obtain ⟨ad, cap, rfl, hlm, hnc, hc⟩ := hr
  match ad, hnc, hc with
  | none, hnc, hc =>
    have hc0 := hnc rfl
    have hy0 : ys = [] := by
      rcases ys with _ | ⟨q, ys⟩
      · rfl
      · obtain ⟨b, off, e, _⟩ := hc (by simp); cases e
    subst hy0; subst hc0
    have hr := run_append_none (P := P) t o.type e i R.m ht hi v xs.length _ hown
    unfold Oper.wp execOp
    simp only [ho, resolve, invoke, builtin, Sem.run_bind, Sem.run_pure, Result.andThen_ok, List.map_toArray, List.map_cons, List.map_nil, hs, hx, List.length_nil, hr]
    have h2 := h v w (by rw [List.append_nil]; have : L.set j (recT R e v xs) = L := by obtain ⟨hlt, he⟩ := List.getElem?_eq_some_iff.1 hj; rw [← he]; exact List.set_getElem_self _
                         rw [this]; exact hsep)
    exact hK _ _ h2
  | some ad, hnc, hc =>
    have hnews : ∀ j u, (R.flat ys)[j]? = some u → w.cell? (ad.add j) = some u := by
      intro j u hu
      have hj : j < ys.length * R.m := by have := (List.getElem?_eq_some_iff.1 hu).1; rwa [R.flat_length] at this
      have hp := R.pos
      have hy0 : 0 < ys.length := by
        rcases Nat.eq_zero_or_pos ys.length with h | h
        · rw [h] at hj; simp at hj
        · exact h
      obtain ⟨b, off, e, hb, hcell⟩ := hc hy0
      injection e with e
      subst e
      have hadd : (⟨b, off, none⟩ : Addr).add j = ⟨b, off + j, none⟩ := by unfold Addr.add; split <;> simp_all
      have hq : j / R.m < ys.length := (Nat.div_lt_iff_lt_mul hp).2 hj
      have hr : j % R.m < R.m := Nat.mod_lt _ hp
      have hjj : j / R.m * R.m + j % R.m = j := by rw [Nat.mul_comm]; exact Nat.div_add_mod j R.m
      have h1 := hcell (j / R.m) hq (j % R.m) hr
      rw [Nat.add_assoc, hjj] at h1
      have h2 := R.flat_get ys (j / R.m) hq (j % R.m) hr
      rw [hjj, hu] at h2
      rw [hadd, h1, ← h2]
    obtain ⟨v', w', hr, hA⟩ := run_append (P := P) (w := w) t o.type e i z R.m bytes ht hi hz hsize hby hzs R.pos v xs.length _ hown ad ys.length cap (R.flat ys) (R.flat_length ys) hnews
      (R.flat_one ys) h63 hbytes
    unfold Oper.wp execOp
    simp only [ho, resolve, invoke, builtin, Sem.run_bind, Sem.run_pure, Result.andThen_ok, List.map_toArray, List.map_cons, List.map_nil, hs, hx, hr]
    exact hK _ _ (h v' w' (hsep.appRecs j hj rfl hA))
end
end Go.Mem
