/-
  Rows of slices; rows of rows of numbers. Plain lemmas.
-/
import Derived.Test.YthcmkljdhhepgaaLC
import Derived.Test.YthcmkljdhhepgaaTab
set_option linter.unusedVariables false
set_option linter.unusedSimpArgs false
namespace Go.Mem
open Go Go.RowKit
/-- A slice, as it lies in a row of slices. -/
structure Sl where
  a : Option Addr
  n : Nat
  c : Nat
instance : Inhabited Sl := ⟨⟨none, 0, 0⟩⟩
def Sl.val (s : Sl) : Value := .slice s.a s.n s.c
def slR : Rec Sl where
  m := 1
  cells s := [.slice s.a s.n s.c]
  len _ := rfl
  one s u hu := by
    simp only [List.mem_cons, List.not_mem_nil, or_false] at hu
    subst hu; rfl
  pos := by decide
theorem Sep.setRow {α : Type} {R : Rec α} {E : TypeId} {w0 w : World} {L : List Thing} {xs : List α} {g n cap : Nat} (h : Sep w0 w L) (i : Nat) (hi : L[i]? = some (recT R E (.slice (some ⟨g, 0, none⟩) n cap) xs)) (k : Nat) (hk : k < xs.length) (o : Nat) (ho : o < R.m) (y : α) (u : Value) (hy : R.cells y = (R.cells xs[k]).set o u) :
    Sep w0 (w.setCell ⟨g, k * R.m + o, none⟩ u) (L.set i (recT R E (.slice (some ⟨g, 0, none⟩) n cap) (xs.set k y))) :=
  h.turn i hi fun S hS => by
    obtain ⟨rfl, hS⟩ := hS
    exact ⟨_, ⟨rfl, hS.setField k hk o ho y u hy⟩, Fr.setCell _ _ _ rfl, fun j hj => .inl hj⟩
section
variable {P : Program} {w w0 : World} {L : List Thing}
/-- 'make([][]T, n)'. -/
theorem wpList_makeSl {ops : Array Oper} {rest : List Oper} {o : Oper} {a : Act} {Q : Exit → Act → World → Prop} (hgd : o.guard = none) (x y : Operand) (t : TypeId)
    (ho : o.op = .makeSlice t x y) (e : TypeId) (i : TypeInfo) (bytes : Nat) (ht : P.underlying t = some (.slice e)) (hi : P.info? e = some i) (hz : i.zero = some (.slice none 0 0))
    (hsize : i.size = 1) (hby : i.bytes = bytes) (n : Nat) (kl kc : IntKind) (hx : a.eval x = .int kl n) (hy : a.eval y = .int kc n) (hsep : Sep w0 w L)
    (h63 : n ≤ maxLen) (hbytes : bytes * n ≤ 281474976710656)
    (h : ∀ w' g, Sep w0 w' (recT slR e (.slice (some ⟨g, 0, none⟩) n n) (List.replicate n ⟨none, 0, 0⟩) :: L) → wpList P ops Q rest (a.put o.dst (.slice (some ⟨g, 0, none⟩) n n)) w') :
    wpList P ops Q (o :: rest) a w := by
  refine wpList_plain hgd fun K hK => ?_
  have hb : (i.bytes : Int) * (n : Int) ≤ 281474976710656 := by
    rw [hby]
    have : ((bytes * n : Nat) : Int) ≤ 281474976710656 := by omega
    rwa [Int.natCast_mul] at this
  have h63' := h63
  simp only [maxLen] at h63'
  have hr := run_make (P := P) w t e i (.slice none 0 0) ht hi hz kl kc (n : Int) (n : Int) (by omega) (Int.le_refl _) hb (by omega)
  simp only [Int.toNat_natCast, hsize, madeCells_one (.slice none 0 0) rfl] at hr
  have hs := hsep.litRecs slR e (List.replicate n ⟨none, 0, 0⟩) (by simpa using h63)
  simp only [List.length_replicate] at hs
  have e1 : (slR.flat (List.replicate n ⟨none, 0, 0⟩)).toArray = Array.replicate n (Value.slice none 0 0) := by
    apply Array.ext'
    simp only [Rec.flat, slR]
    induction n with
    | zero => rfl
    | succ n ih => simp [List.replicate_succ, List.flatMap_replicate]
  rw [e1] at hs
  unfold Oper.wp execOp
  simp only [ho, hx, hy, Sem.run_bind, Sem.run_pure, Result.andThen_ok, hr]
  exact hK _ _ (h _ _ hs)
end
/-- Rows of numbers, each in a block of its own. -/
def gridL (k : IntKind) (E : TypeId) (G : List (Sl × List Int)) : List Thing := G.map fun p => intsT k E p.1.val p.2
theorem gridL_len (k : IntKind) (E : TypeId) (G : List (Sl × List Int)) : (gridL k E G).length = G.length := by simp [gridL]
theorem gridL_at {k : IntKind} {E : TypeId} {G : List (Sl × List Int)} {i : Nat} (h : i < G.length) : (gridL k E G)[i]? = some (intsT k E G[i].1.val G[i].2) := by
  unfold gridL; rw [List.getElem?_map, List.getElem?_eq_getElem h]; rfl
theorem Sep.gridAdd {w0 w : World} {k : IntKind} {E : TypeId} {G : List (Sl × List Int)} {L : List Thing} {s : Sl} {r : List Int} (h : Sep w0 w (intsT k E s.val r :: (L ++ gridL k E G))) : Sep w0 w (L ++ gridL k E (G ++ [(s, r)])) := by
  refine h.perm ?_
  unfold gridL
  rw [List.map_append, List.map_cons, List.map_nil, ← List.append_assoc]
  exact (List.perm_append_singleton _ _).symm
/-- A table of numbers that a call has made: a row of rows. -/
def GridP (E2 E : TypeId) (w w' : World) (v : Value) (M : List (List Int)) : Prop := ∃ G : List (Sl × List Int), G.map (·.2) = M ∧ Sep w w' (recT slR E2 v (G.map (·.1)) :: gridL .i64 E G)
end Go.Mem
