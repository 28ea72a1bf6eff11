/-
  The laws of append of one element inside a fence: twins of those outside. Plain theorems.
-/
import Derived.OwnWalkIn
import Derived.Test.YtfafecgnjjkagaaSeq
namespace Go.Mem
open Go Go.RowKit
/-- What an append leaves, beside the things. -/
structure AppOk (v v' : Value) (w w' : World) : Prop where
  fr : Fr (fun b => v.ownBlock = some b) w w'
  block : ∀ g, v'.ownBlock = some g → v.ownBlock = some g ∨ w.heap.size ≤ g
  keep : KeepsOthers w w'
theorem keepsOthers_fr {S : Nat → Prop} {w w' : World} (h : Fr S w w') (hc : ∀ k, S k → ∃ o : Obj, w.heap[k]? = some o ∧ o.isCells = true) : KeepsOthers w w' :=
  ⟨h.size, fun i o hi ho => (h.block i (Array.getElem?_eq_some_iff.1 hi).1 (fun hs => by obtain ⟨o', h1, h2⟩ := hc i hs; rw [hi] at h1; cases h1; rw [ho] at h2; cases h2)).trans hi⟩
theorem AppOk.of {w w' : World} {e : TypeId} {size n m : Nat} {v v' : Value} {xs ys : List Value} (hA : Appended w w' e size v v' n xs) (ho : w.ownsRow 0 e size v m ys) : AppOk v v' w w' :=
  ⟨hA.fr, hA.block, keepsOthers_fr hA.fr (fun k hk => owns_cells ho k hk)⟩
/-- What a round leaves that appends to a row that lies above. -/
theorem KeepX.app {N : Nat} {S : Nat → Prop} {v v' : Value} {w w' : World} (h : AppOk v v' w w') (hN : N ≤ w.heap.size) (hv : ∀ k, v.ownBlock = some k → N ≤ k) : KeepX N S w w' :=
  ⟨h.fr.size, fun b hb _ => h.fr.block b (by omega) (fun e => by have := hv b e; omega)⟩
theorem ownFrom_ex {β γ : Type} {B : Nat} {I : β → γ → World → Prop} (h : ∀ c, OwnFrom B (fun s W => I s c W)) : OwnFrom B (fun s W => ∃ c, I s c W) := fun s W W' row hs hg hr => let ⟨c, hc⟩ := hs; ⟨c, h c s W W' row hc hg hr⟩
section
variable {F : Fence} {m : Nat} {P : Program} {w0 w : World} {L : List Thing} {α : Type}
theorem wpListIn_append1 {ops : Array Oper} {rest : List Oper} {o : Oper} {a : Act} {Q : Exit → Act → World → Prop} (hgd : o.guard = none) (s x : Operand) (t : TypeId)
    (ho : o.op = .call { callee := .builtin .append, args := #[s, x], argTypes := #[t, t] })
    (e : TypeId) (i : TypeInfo) (z : Value) (size bytes : Nat) (ht : P.underlying t = some (.slice e)) (hi : P.info? e = some i) (hz : i.zero = some z)
    (hsize : i.size = size) (hby : i.bytes = bytes) (hzs : z.cells.size = size) (hsz : 0 < size)
    (v : Value) (n : Nat) (xs : List Value) (hs : a.eval s = v) (hown : w.ownsRow 0 e size v n xs)
    (B : Nat) (cs : Array Value) (E' : TypeId) (fr : Nat × Nat) (hx : a.eval x = .slice (some ⟨B, 0, none⟩) 1 1) (hB : w.heap[B]? = some (.cells cs E' fr)) (hcs : cs.size = size) (h1 : ∀ u ∈ cs.toList, u.oneCell' = true)
    (h63 : n + 1 ≤ maxLen) (hbytes : (n + 1) * bytes ≤ 140737488355328)
    (h : ∀ v' w', Appended w w' e size v v' (n + 1) (xs ++ cs.toList) → wpListIn F m P ops Q rest (a.put o.dst v') w') : wpListIn F m P ops Q (o :: rest) a w := by
  refine wpListIn_plain hgd fun K hK => ?_
  obtain ⟨v', w', hr, hA⟩ := run_append (P := P) (w := w) t o.type e i z size bytes ht hi hz hsize hby hzs hsz v n xs hown ⟨B, 0, none⟩ 1 1 cs.toList (by simpa using hcs)
    (fun j u hj => by
      have hadd : (⟨B, 0, none⟩ : Addr).add j = ⟨B, j, none⟩ := by unfold Addr.add; split <;> simp_all
      rw [hadd, cell_of hB]
      simpa using hj) h1 h63 hbytes
  unfold Oper.wpIn
  refine ⟨?_, ?_⟩
  · simp [Oper.about, ho, resolve, Target.leads, Sem.run_pure]
  · rw [Oper.semAt_plain F _ _ (by rw [ho]; intro c hc'; cases hc')]
    unfold execOp
    simp only [ho, resolve, invoke, builtin, Sem.run_bind, Sem.run_pure, Result.andThen_ok, List.map_toArray, List.map_cons, List.map_nil, hs, hx, hr]
    exact hK _ _ (h v' w' hA)
theorem wpListIn_appRecB {ops : Array Oper} {rest : List Oper} {o : Oper} {a : Act} {Q : Exit → Act → World → Prop} (R : Rec α) (hgd : o.guard = none) (s x : Operand) (t : TypeId)
    (ho : o.op = .call { callee := .builtin .append, args := #[s, x], argTypes := #[t, t] })
    (e : TypeId) (i : TypeInfo) (z : Value) (bytes : Nat) (ht : P.underlying t = some (.slice e)) (hi : P.info? e = some i) (hz : i.zero = some z)
    (hsize : i.size = R.m) (hby : i.bytes = bytes) (hzs : z.cells.size = R.m)
    (v : Value) (xs : List α) (q : α) (hsep : Sep w0 w L) (j : Nat) (hj : L[j]? = some (recT R e v xs)) (B : Nat) (cs : Array Value) (hcs : cs = (R.cells q).toArray) (hB : w.heap[B]? = some (.cells cs e (0, 0)))
    (hs : a.eval s = v) (hx : a.eval x = .slice (some ⟨B, 0, none⟩) 1 1)
    (h63 : xs.length + 1 ≤ maxLen) (hbytes : (xs.length + 1) * bytes ≤ 140737488355328)
    (h : ∀ v' w', Sep w0 w' (L.set j (recT R e v' (xs ++ [q]))) → Hid (∃ g cap, v' = .slice (some ⟨g, 0, none⟩) (xs.length + 1) cap) → Hid (AppOk v v' w w') → wpListIn F m P ops Q rest (a.put o.dst v') w') :
    wpListIn F m P ops Q (o :: rest) a w := by
  subst hcs
  have hown := hsep.recs j hj
  unfold ROwn at hown
  refine wpListIn_append1 hgd s x t ho e i z R.m bytes ht hi hz hsize hby hzs R.pos v xs.length _ hs hown B _ _ _ hx hB (by simp [R.len]) (by simpa using R.one q) h63 hbytes ?_
  intro v' w' hA
  refine h v' w' (hsep.appRecs j hj (ys := [q]) (n := xs.length + 1) rfl ?_) (hA.shape (by omega)) (AppOk.of hA hown)
  simpa [Rec.flat] using hA
theorem wpListIn_appRec {ops : Array Oper} {rest : List Oper} {o : Oper} {a : Act} {Q : Exit → Act → World → Prop} (R : Rec α) (hgd : o.guard = none) (s x : Operand) (t : TypeId)
    (ho : o.op = .call { callee := .builtin .append, args := #[s, x], argTypes := #[t, t] })
    (e : TypeId) (i : TypeInfo) (z : Value) (bytes : Nat) (ht : P.underlying t = some (.slice e)) (hi : P.info? e = some i) (hz : i.zero = some z)
    (hsize : i.size = R.m) (hby : i.bytes = bytes) (hzs : z.cells.size = R.m)
    (v : Value) (xs : List α) (q : α) (hsep : Sep w0 w L) (j : Nat) (hj : L[j]? = some (recT R e v xs)) (cs : Array Value) (hcs : cs = (R.cells q).toArray)
    (hs : a.eval s = v) (hx : a.eval x = .slice (some ⟨w.heap.size, 0, none⟩) 1 1)
    (h63 : xs.length + 1 ≤ maxLen) (hbytes : (xs.length + 1) * bytes ≤ 140737488355328)
    (h : ∀ v' w', Sep w0 w' (L.set j (recT R e v' (xs ++ [q]))) → Hid (∃ g cap, v' = .slice (some ⟨g, 0, none⟩) (xs.length + 1) cap) → Hid (AppOk v v' (w.alloc (.cells cs e)) w') → wpListIn F m P ops Q rest (a.put o.dst v') w') :
    wpListIn F m P ops Q (o :: rest) a (w.alloc (.cells cs e)) :=
  wpListIn_appRecB R hgd s x t ho e i z bytes ht hi hz hsize hby hzs v xs q (hsep.alloc _) j hj w.heap.size cs hcs (heap_alloc_new w _) hs hx h63 hbytes h
theorem wpListIn_appIntB {ops : Array Oper} {rest : List Oper} {o : Oper} {a : Act} {Q : Exit → Act → World → Prop} (hgd : o.guard = none) (s x : Operand) (t : TypeId)
    (ho : o.op = .call { callee := .builtin .append, args := #[s, x], argTypes := #[t, t] })
    (e : TypeId) (i : TypeInfo) (z : Value) (bytes : Nat) (ht : P.underlying t = some (.slice e)) (hi : P.info? e = some i) (hz : i.zero = some z)
    (hsize : i.size = 1) (hby : i.bytes = bytes) (hzs : z.cells.size = 1)
    (v : Value) (zs : List Int) (k : IntKind) (q : Int) (hsep : Sep w0 w L) (j : Nat) (hj : L[j]? = some (intsT k e v zs)) (B : Nat) (hB : w.heap[B]? = some (.cells #[.int k q] e (0, 0)))
    (hs : a.eval s = v) (hx : a.eval x = .slice (some ⟨B, 0, none⟩) 1 1)
    (h63 : zs.length + 1 ≤ maxLen) (hbytes : (zs.length + 1) * bytes ≤ 140737488355328)
    (h : ∀ v' w', Sep w0 w' (L.set j (intsT k e v' (zs ++ [q]))) → Hid (∃ g cap, v' = .slice (some ⟨g, 0, none⟩) (zs.length + 1) cap) → wpListIn F m P ops Q rest (a.put o.dst v') w') :
    wpListIn F m P ops Q (o :: rest) a w := by
  have hown := hsep.ints j hj
  unfold IOwn at hown
  refine wpListIn_append1 hgd s x t ho e i z 1 bytes ht hi hz hsize hby hzs (by omega) v zs.length _ hs hown B _ _ _ hx hB rfl (by simp [Value.oneCell']) h63 hbytes ?_
  intro v' w' hA
  refine h v' w' (hsep.appInts j hj rfl hA) (hA.shape (by omega))
theorem wpListIn_appInt {ops : Array Oper} {rest : List Oper} {o : Oper} {a : Act} {Q : Exit → Act → World → Prop} (hgd : o.guard = none) (s x : Operand) (t : TypeId)
    (ho : o.op = .call { callee := .builtin .append, args := #[s, x], argTypes := #[t, t] })
    (e : TypeId) (i : TypeInfo) (z : Value) (bytes : Nat) (ht : P.underlying t = some (.slice e)) (hi : P.info? e = some i) (hz : i.zero = some z)
    (hsize : i.size = 1) (hby : i.bytes = bytes) (hzs : z.cells.size = 1)
    (v : Value) (zs : List Int) (k : IntKind) (q : Int) (hsep : Sep w0 w L) (j : Nat) (hj : L[j]? = some (intsT k e v zs)) (hs : a.eval s = v) (hx : a.eval x = .slice (some ⟨w.heap.size, 0, none⟩) 1 1)
    (h63 : zs.length + 1 ≤ maxLen) (hbytes : (zs.length + 1) * bytes ≤ 140737488355328)
    (h : ∀ v' w', Sep w0 w' (L.set j (intsT k e v' (zs ++ [q]))) → Hid (∃ g cap, v' = .slice (some ⟨g, 0, none⟩) (zs.length + 1) cap) → wpListIn F m P ops Q rest (a.put o.dst v') w') :
    wpListIn F m P ops Q (o :: rest) a (w.alloc (.cells #[.int k q] e)) :=
  wpListIn_appIntB hgd s x t ho e i z bytes ht hi hz hsize hby hzs v zs k q (hsep.alloc _) j hj w.heap.size (heap_alloc_new w _) hs hx h63 hbytes h
/-- The frame at a range over a function, by a name. -/
theorem nameRF {g : Operand} {ps : Array Tmp} {assign body : Code} {Q : Exit → Act → World → Prop} {a : Act} (h : ∀ b, b = a → (Code.rangeFunc g ps assign body).wpIn F m P Q b w) : (Code.rangeFunc g ps assign body).wpIn F m P Q a w := h a rfl
end
end Go.Mem
