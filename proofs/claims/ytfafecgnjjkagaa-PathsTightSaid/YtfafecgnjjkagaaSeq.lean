/-
  Ranges over a function: what a round leaves, as things in memory. Plain lemmas.
-/
import Derived.RangeFuncNested
import Derived.RangeFuncBound
import Derived.RangeFuncCalls
import Derived.RangeFuncLeaves
import Derived.Test.YtfafecgnjjkagaaRec
namespace Go.Mem
open Go Go.RowKit

/-- What a round leaves of the blocks below N: all but those of S. -/
def KeepX (N : Nat) (S : Nat → Prop) (W W' : World) : Prop := W.heap.size ≤ W'.heap.size ∧ ∀ b, b < N → ¬ S b → W'.heap[b]? = W.heap[b]?
theorem KeepX.refl (N : Nat) (S : Nat → Prop) (W : World) : KeepX N S W W := ⟨Nat.le_refl _, fun _ _ _ => rfl⟩
theorem KeepX.trans {N : Nat} {S : Nat → Prop} {A B C : World} (h : KeepX N S A B) (k : KeepX N S B C) : KeepX N S A C := ⟨Nat.le_trans h.1 k.1, fun b hb hs => (k.2 b hb hs).trans (h.2 b hb hs)⟩
theorem KeepX.cell {N : Nat} {S : Nat → Prop} {W W' : World} (h : KeepX N S W W') {b o : Nat} (hb : b < N) (hs : ¬ S b) : W'.cell? ⟨b, o, none⟩ = W.cell? ⟨b, o, none⟩ := World.cell?_of_block (w := W) (h.2 b hb hs)
theorem KeepX.alloc {N : Nat} {S : Nat → Prop} {W : World} (h : N ≤ W.heap.size) (o : Obj) : KeepX N S W (W.alloc o) := ⟨by simp, fun b hb _ => Below.heap_alloc W o b (by omega)⟩
theorem KeepX.drew {N : Nat} {S : Nat → Prop} {W W' : World} (h : KeepX N S W W') : KeepX N S W W'.drew := ⟨h.1, h.2⟩
theorem KeepX.setCell {N : Nat} {S : Nat → Prop} (W : World) (a : Addr) (u : Value) (h : S a.block) : KeepX N S W (W.setCell a u) := ⟨by simp [World.setCell], fun i _ hn => Below.heap_setCell W a u i (fun e => hn (e ▸ h))⟩
theorem KeepX.below {N : Nat} {S : Nat → Prop} {W W' : World} (h : N ≤ W.heap.size) (hb : Below W.heap.size W W') : KeepX N S W W' := ⟨hb.size, fun b hb' _ => hb.block b (by omega)⟩
theorem KeepX.fr {N : Nat} {S T : Nat → Prop} {W W' : World} (h : Fr T W W') (hN : N ≤ W.heap.size) (hT : ∀ k, T k → S k) : KeepX N S W W' := ⟨h.size, fun b hb hs => h.block b (by omega) (fun t => hs (hT b t))⟩
theorem keepX_b {N : Nat} {S : Nat → Prop} {w : World} (hn : N ≤ w.heap.size) (W : World) (l : Nat) (o o' : Obj) (hl : w.heap.size ≤ l) (_ : W.heap[l]? = some o) (_ : o.isCells = false) (_ : o.isWalk = false) : KeepX N S W (W.putObj l o') :=
  ⟨(grownBy_putObj' W l o').size, fun b hb _ => (grownBy_putObj' W l o').block b (by have := (Array.getElem?_eq_some_iff.1 (by assumption : W.heap[l]? = some o)).1; omega) (by intro e; cases e; omega)⟩

/-- Its blocks are blocks of cells. -/
def Thing.Cells (A : Thing) : Prop := ∀ w S, A.is w S → ∀ k, S k → ∃ o : Obj, w.heap[k]? = some o ∧ o.isCells = true
theorem cellsT_cells (b : Nat) (cs : Array Value) (E : TypeId) : (cellsT b cs E).Cells := by rintro w S ⟨rfl, h⟩ k rfl; exact ⟨_, h, rfl⟩
theorem owns_cells {w : World} {E : TypeId} {size n : Nat} {v : Value} {xs : List Value} (h : w.ownsRow 0 E size v n xs) (k : Nat) (hk : v.ownBlock = some k) : ∃ o : Obj, w.heap[k]? = some o ∧ o.isCells = true := by
  rcases h.2 with ⟨rfl, _⟩ | ⟨g, cap, cur, rfl, hb, hg, _⟩
  · simp [Value.ownBlock] at hk
  · simp only [Value.ownBlock, Option.some.injEq] at hk; subst hk; exact ⟨_, hg, rfl⟩
theorem intsT_cells (k : IntKind) (E : TypeId) (v : Value) (zs : List Int) : (intsT k E v zs).Cells := by rintro w S ⟨rfl, h⟩ j hj; exact owns_cells h j hj
theorem recT_cells {α : Type} (R : Rec α) (E : TypeId) (v : Value) (xs : List α) : (recT R E v xs).Cells := by rintro w S ⟨rfl, h⟩ j hj; exact owns_cells h j hj

theorem Sep.turned {w0 w w' : World} {L : List Thing} {row : Option Nat} (h : Sep w0 w L) (hc : ∀ A ∈ L, A.Cells) (hg : w.grownBy w' row)
    (hr : ∀ r, row = some r → w0.heap.size ≤ r ∧ ∃ o : Obj, w.heap[r]? = some o ∧ o.isCells = false) : Sep w0 w' L := by
  obtain ⟨Ss, hl, ha, p⟩ := h
  have hf : Fr (fun k => row = some k) w w' := Fr.grown hg (fun k hk => hk)
  refine ⟨Ss, hl, fun j C T hC hT => C.stay (ha j C T hC hT) hf (fun k hk e => ?_), p.dis, fun i C hC b hb => ⟨(p.rng i C hC b hb).1, Nat.lt_of_lt_of_le (p.rng i C hC b hb).2 hf.size⟩, p.below.trans (hf.toBelow _ (fun b hb e => ?_) p.below.size)⟩
  · obtain ⟨_, o, ho, hn⟩ := hr k e
    obtain ⟨o', ho', hy⟩ := hc C (List.mem_of_getElem? hC) _ _ (ha j C T hC hT) k hk
    rw [ho] at ho'; cases ho'; rw [hn] at hy; cases hy
  · have := (hr b e).1; omega
theorem sep_ownFrom {β : Type} {B : Nat} {w0 : World} (L : β → List Thing) (hB : w0.heap.size ≤ B) (hc : ∀ s, ∀ A ∈ L s, A.Cells) : OwnFrom B (fun s W => Sep w0 W (L s)) :=
  fun s _ _ _ hs hg hr => hs.turned (hc s) hg (fun r e => ⟨Nat.le_trans hB (hr r e).1, (hr r e).2⟩)
theorem cellsRow_own {β : Type} (B : Nat) (t : TypeId) (f : β → Array Value) : Own (fun s W => W.heap[B]? = some (.cells (f s) t (0, 0))) := fun s X Y row hs hg hrow => by
  refine (hg.block B (Array.getElem?_eq_some_iff.1 hs).1 (fun e => ?_)).trans hs
  obtain ⟨o, ho, hc⟩ := hrow B e.symm
  rw [show X.heap[B]? = _ from hs] at ho; cases ho; cases hc
theorem cells_set {W : World} {b : Nat} {cs : Array Value} {E : TypeId} {o : Nat} {u : Value} {ds : Array Value} (h : W.heap[b]? = some (.cells cs E (0, 0))) (hd : ds = cs.setIfInBounds o u) :
    (W.setCell ⟨b, o, none⟩ u).heap[b]? = some (.cells ds E (0, 0)) := by
  subst hd
  have hb := (Array.getElem?_eq_some_iff.1 h).1
  rw [Array.getElem?_eq_getElem hb] at h
  simp [World.setCell, hb, Array.getElem_modify, Option.some.inj h]
theorem Sep.setCells {w0 w : World} {L : List Thing} {b : Nat} {cs : Array Value} {E : TypeId} (h : Sep w0 w L) (i : Nat) (hi : L[i]? = some (cellsT b cs E)) (o : Nat) (u : Value) (ds : Array Value) (hd : ds = cs.setIfInBounds o u) :
    Sep w0 (w.setCell ⟨b, o, none⟩ u) (L.set i (cellsT b ds E)) :=
  h.turn i hi fun S hS => ⟨_, ⟨rfl, cells_set hS.2 hd⟩, by rw [hS.1]; exact Fr.setCell _ _ _ rfl, fun j hj => .inl (by rw [hS.1]; exact hj)⟩

/-- 'make([]int, n)', inside a fence. -/
theorem wpListIn_makeInts {F : Fence} {m : Nat} {P : Program} {w0 w : World} {L : List Thing} {ops : Array Oper} {rest : List Oper} {o : Oper} {a : Act} {Q : Exit → Act → World → Prop} (hgd : o.guard = none) (x y : Operand) (t : TypeId)
    (ho : o.op = .makeSlice t x y) (e : TypeId) (i : TypeInfo) (k : IntKind) (bytes : Nat) (ht : P.underlying t = some (.slice e)) (hi : P.info? e = some i) (hz : i.zero = some (.int k 0))
    (hsize : i.size = 1) (hby : i.bytes = bytes) (n : Nat) (kl kc : IntKind) (hx : a.eval x = .int kl n) (hy : a.eval y = .int kc n) (hsep : Sep w0 w L)
    (h63 : n ≤ maxLen) (hbytes : bytes * n ≤ 281474976710656)
    (h : ∀ w' g, Sep w0 w' (intsT k e (.slice (some ⟨g, 0, none⟩) n n) (List.replicate n 0) :: L) → wpListIn F m P ops Q rest (a.put o.dst (.slice (some ⟨g, 0, none⟩) n n)) w') :
    wpListIn F m P ops Q (o :: rest) a w := by
  refine wpListIn_plain hgd fun K hK => ?_
  have hb : (i.bytes : Int) * (n : Int) ≤ 281474976710656 := by
    rw [hby]
    have : ((bytes * n : Nat) : Int) ≤ 281474976710656 := by omega
    rwa [Int.natCast_mul] at this
  have h63' := h63
  simp only [maxLen] at h63'
  have hr := run_make (P := P) w t e i (.int k 0) ht hi hz kl kc (n : Int) (n : Int) (by omega) (Int.le_refl _) hb (by omega)
  simp only [Int.toNat_natCast, hsize, madeCells_int] at hr
  have hs := hsep.litInts k e (List.replicate n 0) (by simpa using h63)
  simp only [List.length_replicate] at hs
  refine ⟨fun f hf => (by simp [Oper.about, ho] at hf), ?_⟩
  rw [Oper.semAt_eq _ _ _ (by intro c e; rw [ho] at e; cases e)]
  unfold execOp
  simp only [ho, hx, hy, Sem.run_bind, Sem.run_pure, Result.andThen_ok, hr]
  exact hK _ _ (h _ _ hs)
end Go.Mem
