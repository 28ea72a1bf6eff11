/-
  What a round leaves: some blocks, and all blocks of one type. Plain lemmas.
-/
import Derived.Test.YtfafecgnjjkagaaAppIn
namespace Go.Mem
open Go Go.RowKit
/-- What a round leaves: the blocks below N but those of S, and all blocks of type E. -/
def KeepT (E : TypeId) (N : Nat) (S : Nat → Prop) (W W' : World) : Prop := KeepX N S W W' ∧ ∀ (b : Nat) (cs : Array Value) (fr : Nat × Nat), W.heap[b]? = some (Obj.cells cs E fr) → W'.heap[b]? = some (Obj.cells cs E fr)
theorem KeepT.refl (E : TypeId) (N : Nat) (S : Nat → Prop) (W : World) : KeepT E N S W W := ⟨KeepX.refl _ _ _, fun _ _ _ h => h⟩
theorem KeepT.trans {E : TypeId} {N : Nat} {S : Nat → Prop} {A B C : World} (h : KeepT E N S A B) (k : KeepT E N S B C) : KeepT E N S A C := ⟨h.1.trans k.1, fun b cs fr q => k.2 b cs fr (h.2 b cs fr q)⟩
theorem KeepT.alloc {E : TypeId} {N : Nat} {S : Nat → Prop} {W : World} (h : N ≤ W.heap.size) (o : Obj) : KeepT E N S W (W.alloc o) :=
  ⟨KeepX.alloc h o, fun b cs fr q => (Below.heap_alloc W o b (Array.getElem?_eq_some_iff.1 q).1).trans q⟩
theorem KeepT.drew {E : TypeId} {N : Nat} {S : Nat → Prop} {W W' : World} (h : KeepT E N S W W') : KeepT E N S W W'.drew := ⟨h.1.drew, h.2⟩
theorem KeepT.drewL {E : TypeId} {N : Nat} {S : Nat → Prop} {W W' : World} (h : KeepT E N S W.drew W') : KeepT E N S W W' := ⟨⟨h.1.1, h.1.2⟩, h.2⟩
theorem KeepT.fr {E : TypeId} {N : Nat} {S T : Nat → Prop} {W W' : World} (h : Fr T W W') (hN : N ≤ W.heap.size) (hT : ∀ k, T k → k < N → S k) (hE : ∀ k, T k → ∀ cs fr, W.heap[k]? ≠ some (Obj.cells cs E fr)) : KeepT E N S W W' :=
  ⟨⟨h.size, fun b hb hs => h.block b (by omega) (fun t => hs (hT b t hb))⟩, fun b cs fr q => (h.block b (Array.getElem?_eq_some_iff.1 q).1 (fun t => hE b t cs fr q)).trans q⟩
theorem KeepT.setCell {E : TypeId} {N : Nat} {S : Nat → Prop} (W : World) (a : Addr) (u : Value) (h : S a.block) (hE : ∀ (cs : Array Value) (fr : Nat × Nat), W.heap[a.block]? ≠ some (Obj.cells cs E fr)) : KeepT E N S W (W.setCell a u) :=
  ⟨KeepX.setCell W a u h, fun b cs fr q => (Below.heap_setCell W a u b (fun e => hE cs fr (by rw [← e]; exact q))).trans q⟩
theorem keepT_b {E : TypeId} {N : Nat} {S : Nat → Prop} {w : World} (hn : N ≤ w.heap.size) (W : World) (l : Nat) (o o' : Obj) (hl : w.heap.size ≤ l) (h1 : W.heap[l]? = some o) (h2 : o.isCells = false) (h3 : o.isWalk = false) : KeepT E N S W (W.putObj l o') :=
  ⟨keepX_b hn W l o o' hl h1 h2 h3, fun b cs fr q => ((grownBy_putObj' W l o').block b (Array.getElem?_eq_some_iff.1 q).1 (by intro e; cases e; rw [h1] at q; cases q; cases h2)).trans q⟩
/-- A row's block is of the row's type. -/
theorem owns_type {w : World} {E E' : TypeId} {size n : Nat} {v : Value} {xs : List Value} (h : w.ownsRow 0 E size v n xs) (hne : E ≠ E') (k : Nat) (hk : v.ownBlock = some k) : ∀ (cs : Array Value) (fr : Nat × Nat), w.heap[k]? ≠ some (Obj.cells cs E' fr) := by
  rcases h.2 with ⟨rfl, _⟩ | ⟨g, cap, cur, rfl, hb, hg, _⟩
  · simp [Value.ownBlock] at hk
  · simp only [Value.ownBlock, Option.some.injEq] at hk
    subst hk
    intro cs fr q
    rw [hg] at q
    injection q with q
    injection q with _ q _
    exact hne q
theorem cells_type {w : World} {b : Nat} {cs : Array Value} {E E' : TypeId} (h : w.heap[b]? = some (.cells cs E (0, 0))) (hne : E ≠ E') : ∀ (ds : Array Value) (fr : Nat × Nat), w.heap[b]? ≠ some (Obj.cells ds E' fr) := fun ds fr q => by
  rw [h] at q
  injection q with q
  injection q with _ q _
  exact hne q
theorem KeepT.cell {E : TypeId} {N : Nat} {S : Nat → Prop} {W W' : World} (h : KeepT E N S W W') {b o : Nat} (hb : b < N) (hs : ¬ S b) : W'.cell? ⟨b, o, none⟩ = W.cell? ⟨b, o, none⟩ := h.1.cell hb hs
end Go.Mem
