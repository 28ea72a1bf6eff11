/-
  Plain lemmas of memory: own rows, separation, reading, records, loops, iterators.
-/
import Derived.WalkKit
import Derived.Handy
import Derived.Lib.Hide
import Derived.Deep.Draws
import Derived.OpenShut
import Derived.RangeFuncNested
import Derived.RangeFuncBound
import Derived.RangeFuncCalls
import Derived.RangeFuncLeaves
import Derived.Deep.LoopGhost
import Derived.Deep.Cut
import Derived.OwnWalkIn
import Derived.Laws.BitsLemmas
import Derived.ProofKit
import Derived.Deep.Slices
import Derived.Deep.Fields
import Derived.Lib.SmallJoins
set_option linter.unusedVariables false
set_option linter.unusedSimpArgs false
namespace Go.Mem
open Go Go.RowKit

/-- From w to w' no block that was there has turned, but those of S. -/
structure Fr (S : Nat → Prop) (w w' : World) : Prop where
  os : w'.os = w.os
  tape : w'.tape = w.tape
  output : w'.output = w.output
  size : w.heap.size ≤ w'.heap.size
  block : ∀ k, k < w.heap.size → ¬ S k → w'.heap[k]? = w.heap[k]?

theorem Fr.refl (S : Nat → Prop) (w : World) : Fr S w w := ⟨rfl, rfl, rfl, Nat.le_refl _, fun _ _ _ => rfl⟩
theorem Fr.trans {S T : Nat → Prop} {a b c : World} (h : Fr S a b) (k : Fr T b c) (hT : ∀ i, i < a.heap.size → T i → S i) : Fr S a c :=
  ⟨k.os.trans h.os, k.tape.trans h.tape, k.output.trans h.output, Nat.le_trans h.size k.size, fun i hi hn => (k.block i (Nat.lt_of_lt_of_le hi h.size) (fun t => hn (hT i hi t))).trans (h.block i hi hn)⟩
theorem Fr.mono {S T : Nat → Prop} {a b : World} (h : Fr S a b) (hT : ∀ i, i < a.heap.size → S i → T i) : Fr T a b :=
  ⟨h.os, h.tape, h.output, h.size, fun i hi hn => h.block i hi (fun s => hn (hT i hi s))⟩
theorem Fr.below {S : Nat → Prop} {a b : World} (h : Below a.heap.size a b) : Fr S a b := ⟨h.os, h.tape, h.output, h.size, fun i hi _ => h.block i hi⟩
theorem Fr.toBelow {S : Nat → Prop} {a b : World} (h : Fr S a b) (B : Nat) (hB : ∀ i, i < B → ¬ S i) (hle : B ≤ a.heap.size) : Below B a b :=
  ⟨h.os, h.tape, h.output, h.size, fun i hi => h.block i (by omega) (hB i hi)⟩
theorem Fr.grown {S : Nat → Prop} {a b : World} {row : Option Nat} (h : a.grownBy b row) (hr : ∀ k, row = some k → S k) : Fr S a b :=
  ⟨h.os, h.tape, h.output, h.size, fun i hi hn => h.block i hi (fun e => hn (hr i e.symm))⟩
theorem Fr.setCell {S : Nat → Prop} (w : World) (a : Addr) (u : Value) (h : S a.block) : Fr S w (w.setCell a u) :=
  ⟨rfl, rfl, rfl, by simp [World.setCell], fun i _ hn => Below.heap_setCell w a u i (fun e => hn (e ▸ h))⟩
theorem Fr.set1 (w : World) (g o : Nat) (u : Value) : Fr (· = g) w (w.setCell ⟨g, o, none⟩ u) := Fr.setCell w ⟨g, o, none⟩ u rfl
theorem Fr.set2 (w : World) (g o o' : Nat) (u u' : Value) : Fr (· = g) w ((w.setCell ⟨g, o, none⟩ u).setCell ⟨g, o', none⟩ u') := (Fr.set1 w g o u).trans (Fr.set1 _ g o' u') (fun _ _ h => h)
theorem Fr.alloc {S : Nat → Prop} (w : World) (o : Obj) : Fr S w (w.alloc o) := ⟨rfl, rfl, rfl, by simp, fun i hi _ => Below.heap_alloc w o i hi⟩
theorem Fr.drew {S : Nat → Prop} (w : World) : Fr S w w.drew := ⟨rfl, rfl, rfl, Nat.le_refl _, fun _ _ _ => rfl⟩
theorem Fr.drewN {S : Nat → Prop} (w : World) (m : Nat) : Fr S w (w.drewN m) := ⟨rfl, rfl, rfl, Nat.le_refl _, fun _ _ _ => rfl⟩
theorem Fr.cell {S : Nat → Prop} {w w' : World} (h : Fr S w w') {b o : Nat} (hb : b < w.heap.size) (hn : ¬ S b) : w'.cell? ⟨b, o, none⟩ = w.cell? ⟨b, o, none⟩ := World.cell?_of_block (w := w) (h.block b hb hn)
theorem Fr.frozen {S : Nat → Prop} {w w' : World} (h : Fr S w w') {b o : Nat} (hb : b < w.heap.size) (hn : ¬ S b) : w'.frozen? ⟨b, o, none⟩ = w.frozen? ⟨b, o, none⟩ := World.frozen?_of_block (w := w) (h.block b hb hn)

theorem below_drew {B : Nat} {w w' : World} (h : Below B w.drew w') : Below B w w' := ⟨h.os, h.tape, h.output, h.size, h.block⟩
theorem Fr.of_drew {S : Nat → Prop} {w w' : World} (h : Fr S w.drew w') : Fr S w w' := ⟨h.os, h.tape, h.output, h.size, h.block⟩
theorem Fr.to_drew {S : Nat → Prop} {w w' : World} (h : Fr S w w') : Fr S w w'.drew := ⟨h.os, h.tape, h.output, h.size, h.block⟩

/-- A slice of integers that came in: it is nil; or it leads to a row of 'cap' cells, the numbers 'zs' (the first 'len' are its elements), each fitting its kind. -/
def IsRow (k : IntKind) (w : World) (a : Option Addr) (len cap : Nat) (zs : List Int) : Prop :=
  (a = none ∧ len = 0 ∧ cap = 0 ∧ zs = []) ∨
  ∃ x, a = some x ∧ len ≤ cap ∧ cap ≤ maxLen ∧ zs.length = cap ∧ (∀ i, i < zs.length → w.cell? (x.add i) = some (.int k (zs.getD i 0))) ∧ ∀ n ∈ zs, (Lit.int k n).wf = true

theorem IsRow.get {k : IntKind} {w : World} {a : Option Addr} {len cap : Nat} {zs : List Int} (h : IsRow k w a len cap zs) (i : Nat) (hi : i < len) :
    ∃ b off, a = some ⟨b, off, none⟩ ∧ b < w.heap.size ∧ ∀ j, j < len → w.cell? ⟨b, off + j, none⟩ = some (.int k (zs.getD j 0)) := by
  rcases h with ⟨_, rfl, _, _⟩ | ⟨x, rfl, hl, hm, hz, hc, _⟩
  · omega
  · obtain ⟨b, off, rfl, hc'⟩ := ints_at hc (by omega)
    exact ⟨b, off, rfl, World.block_lt_of_cell? w _ (hc' 0 (by omega)), fun j hj => hc' j (by omega)⟩
theorem IsRow.wf {k : IntKind} {w : World} {a : Option Addr} {len cap : Nat} {zs : List Int} (h : IsRow k w a len cap zs) (j : Nat) (hj : j < len) : (Lit.int k (zs.getD j 0)).wf = true := by
  rcases h with ⟨_, rfl, _, _⟩ | ⟨x, rfl, hl, hm, hz, hc, hw⟩
  · omega
  · refine hw _ ?_
    have : j < zs.length := by omega
    simp [this]

/-- One block of cells, known whole. -/
theorem cell_of {w : World} {b : Nat} {cs : Array Value} {E : TypeId} {fr : Nat × Nat} (h : w.heap[b]? = some (.cells cs E fr)) (o : Nat) : w.cell? ⟨b, o, none⟩ = cs[o]? := cell_of_row w b o cs E fr h
theorem frozen_of {w : World} {b : Nat} {cs : Array Value} {E : TypeId} (h : w.heap[b]? = some (.cells cs E (0, 0))) (o : Nat) : w.frozen? ⟨b, o, none⟩ = false := frozen_of_row w b o cs E h
theorem lt_of {w : World} {b : Nat} {o : Obj} (h : w.heap[b]? = some o) : b < w.heap.size := (Array.getElem?_eq_some_iff.1 h).1
/-- 'ownsRow' looks at the value's own block alone. -/
theorem owns_frame {S : Nat → Prop} {w w' : World} {base : Nat} {E : TypeId} {size : Nat} {v : Value} {n : Nat} {xs : List Value} (h : w.ownsRow base E size v n xs) (hf : Fr S w w') (hS : ∀ k, v.ownBlock = some k → ¬ S k) : w'.ownsRow base E size v n xs := by
  refine ⟨h.1, ?_⟩
  rcases h.2 with hn | ⟨g, cap, cur, rfl, hb, hg, rest⟩
  · exact .inl hn
  · exact .inr ⟨g, cap, cur, rfl, hb, (hf.block g (lt_of hg) (hS g rfl)).trans hg, rest⟩

/-- What an append leaves: a row of its own, in the block that it had or in a new one. -/
structure Appended (w w' : World) (E : TypeId) (size : Nat) (v v' : Value) (n : Nat) (xs : List Value) : Prop where
  own : w'.ownsRow 0 E size v' n xs
  fr : Fr (fun k => v.ownBlock = some k) w w'
  block : ∀ g, v'.ownBlock = some g → v.ownBlock = some g ∨ w.heap.size ≤ g
  shape : 0 < n → ∃ g cap, v' = .slice (some ⟨g, 0, none⟩) n cap

section
variable {P : Program}
theorem run_append {w : World} (t ty e : TypeId) (i : TypeInfo) (z : Value) (size bytes : Nat) (ht : P.underlying t = some (.slice e)) (hi : P.info? e = some i) (hz : i.zero = some z)
    (hsize : i.size = size) (hby : i.bytes = bytes) (hzs : z.cells.size = size) (hsz : 0 < size)
    (v : Value) (n : Nat) (xs : List Value) (hown : w.ownsRow 0 e size v n xs)
    (a : Addr) (m c : Nat) (news : List Value) (hl : news.length = m * size) (hnews : ∀ j u, news[j]? = some u → w.cell? (a.add j) = some u) (h1 : ∀ u ∈ news, u.oneCell' = true)
    (h63 : n + m ≤ maxLen) (hbytes : (n + m) * bytes ≤ 140737488355328) :
    ∃ v' w', (Builtin.append_ #[t, t] ty #[v, .slice (some a) m c]).run P w = .ok v' w' ∧ Appended w w' e size v v' (n + m) (xs ++ news) := by
  obtain ⟨v', w', hr, h2, h3, h4⟩ := run_append_own (P := P) w 0 t ty e i z size bytes ht hi hz hsize hby hzs hsz v n xs hown a m c news hl hnews h1 h63 hbytes (Nat.zero_le _)
  refine ⟨v', w', hr, h2, Fr.grown h3 (fun k hk => hk), ?_, ?_⟩
  · rcases hown.2 with ⟨rfl, rfl⟩ | ⟨g, cap, cur, rfl, hbg, hg, hnc, hcm, hcs, htake⟩
    · obtain ⟨v2, w2, hr2, h2', _, _⟩ := run_append_own (P := P) w w.heap.size t ty e i z size bytes ht hi hz hsize hby hzs hsz (.slice none 0 0) 0 xs ⟨hown.1, .inl ⟨rfl, rfl⟩⟩ a m c news hl hnews h1 h63 hbytes (Nat.le_refl _)
      rw [hr] at hr2
      injection hr2 with e1 e2
      subst e1; subst e2
      intro g hg
      exact .inr (World.ownsRow.lt h2' g hg).1
    · by_cases hroom : n + m ≤ cap
      · have hfit : n * i.size + news.length ≤ cur.size := by rw [hl, hcs, hsize, ← Nat.add_mul]; exact Nat.mul_le_mul_right _ hroom
        have hr2 := run_append_room (P := P) w t ty e i ht hi g n cap cur hg a m c news (by rw [hl, hsize]) hnews h1 hroom hfit
        rw [hr] at hr2
        injection hr2 with e1 e2
        subst e1
        exact fun g hg => .inl hg
      · have holds : ∀ j u, xs[j]? = some u → w.cell? ((⟨g, 0, none⟩ : Addr).add j) = some u := hown.cells (g := g) rfl
        have h63' := h63
        simp only [maxLen] at h63'
        have hr2 := run_append_grow (P := P) w t ty e i z ht hi hz ⟨g, 0, none⟩ n cap xs (by rw [hown.1, hsize]) holds a m c news (by rw [hl, hsize]) hnews (by omega) (by omega) (by rw [hby]; exact growslice_fits (by omega) hbytes)
        rw [hr] at hr2
        injection hr2 with e1 e2
        subst e1
        intro g' hg'
        simp only [Value.ownBlock, Option.some.injEq] at hg'
        exact .inr (by omega)
  · intro hpos
    rcases h2.2 with ⟨_, h⟩ | ⟨g, cap, _, h, _⟩
    · omega
    · exact ⟨g, cap, h⟩

/-- 's = append(s, x)': ONE ELEMENT MORE; x lies in the block B that has just been laid for it. -/
theorem wpList_append1 {w : World} {ops : Array Oper} {rest : List Oper} {o : Oper} {a : Act} {Q : Exit → Act → World → Prop} (hgd : o.guard = none) (s x : Operand) (t : TypeId)
    (ho : o.op = .call { callee := .builtin .append, args := #[s, x], argTypes := #[t, t] })
    (e : TypeId) (i : TypeInfo) (z : Value) (size bytes : Nat) (ht : P.underlying t = some (.slice e)) (hi : P.info? e = some i) (hz : i.zero = some z)
    (hsize : i.size = size) (hby : i.bytes = bytes) (hzs : z.cells.size = size) (hsz : 0 < size)
    (v : Value) (n : Nat) (xs : List Value) (hs : a.eval s = v) (hown : w.ownsRow 0 e size v n xs)
    (B : Nat) (cs : Array Value) (E' : TypeId) (fr : Nat × Nat) (hx : a.eval x = .slice (some ⟨B, 0, none⟩) 1 1) (hB : w.heap[B]? = some (.cells cs E' fr)) (hcs : cs.size = size) (h1 : ∀ u ∈ cs.toList, u.oneCell' = true)
    (h63 : n + 1 ≤ maxLen) (hbytes : (n + 1) * bytes ≤ 140737488355328)
    (h : ∀ v' w', Appended w w' e size v v' (n + 1) (xs ++ cs.toList) → wpList P ops Q rest (a.put o.dst v') w') : wpList P ops Q (o :: rest) a w := by
  refine wpList_plain hgd fun K hK => ?_
  obtain ⟨v', w', hr, hA⟩ := run_append (P := P) (w := w) t o.type e i z size bytes ht hi hz hsize hby hzs hsz v n xs hown ⟨B, 0, none⟩ 1 1 cs.toList (by simpa using hcs)
    (fun j u hj => by
      have hadd : (⟨B, 0, none⟩ : Addr).add j = ⟨B, j, none⟩ := by unfold Addr.add; split <;> simp_all
      rw [hadd, cell_of hB]
      simpa using hj) h1 h63 hbytes
  unfold Oper.wp execOp
  simp only [ho, resolve, invoke, builtin, Sem.run_bind, Sem.run_pure, Result.andThen_ok, List.map_toArray, List.map_cons, List.map_nil, hs, hx, hr]
  exact hK _ _ (h v' w' hA)
end
end Go.Mem
namespace Go.Mem
open Go Go.RowKit

structure Parts (w0 w : World) (L : List (Nat → Prop)) : Prop where
  dis : ∀ (i j : Nat) (A B : Nat → Prop), L[i]? = some A → L[j]? = some B → i ≠ j → ∀ k, A k → ¬ B k
  rng : ∀ (i : Nat) (A : Nat → Prop), L[i]? = some A → ∀ k, A k → w0.heap.size ≤ k ∧ k < w.heap.size
  below : Below w0.heap.size w0 w

section
variable {w0 w w' : World} {L : List (Nat → Prop)} {A A' B : Nat → Prop}
theorem Parts.nil (w0 : World) : Parts w0 w0 [] := ⟨fun i _ _ _ h => by simp at h, fun i _ h => by simp at h, Below.refl _ _⟩
theorem Parts.start (h : Below w0.heap.size w0 w) : Parts w0 w [] := ⟨fun i _ _ _ h => by simp at h, fun i _ h => by simp at h, h⟩

/-- Thing number i turns its own blocks, and may take new ones. -/
theorem Parts.step (P : Parts w0 w L) (i : Nat) (hi : L[i]? = some A) (hf : Fr A w w') (hn : ∀ j, A' j → A j ∨ w.heap.size ≤ j) (ht : ∀ j, A' j → j < w'.heap.size) : Parts w0 w' (L.set i A') := by
  have hil : i < L.length := (List.getElem?_eq_some_iff.1 hi).1
  have look : ∀ j C, (L.set i A')[j]? = some C → (j = i ∧ C = A') ∨ (j ≠ i ∧ L[j]? = some C) := by
    intro j C h
    by_cases hj : j = i
    · subst hj; simp [hil] at h; exact .inl ⟨rfl, h.symm⟩
    · rw [List.getElem?_set_ne (fun e => hj e.symm)] at h; exact .inr ⟨hj, h⟩
  refine ⟨fun j k C D hC hD hne b hb hb2 => ?_, fun j C hC b hb => ?_, P.below.trans (hf.toBelow _ (fun b hb hA => ?_) P.below.size)⟩
  · rcases look j C hC with ⟨rfl, rfl⟩ | ⟨h1, h2⟩ <;> rcases look k D hD with ⟨rfl, rfl⟩ | ⟨h3, h4⟩
    · exact hne rfl
    · rcases hn b hb with h | h
      · exact P.dis j k A D hi h4 hne b h hb2
      · have := (P.rng k D h4 b hb2).2; omega
    · rcases hn b hb2 with h | h
      · exact P.dis j k C A h2 hi hne b hb h
      · have := (P.rng j C h2 b hb).2; omega
    · exact P.dis j k C D h2 h4 hne b hb hb2
  · rcases look j C hC with ⟨rfl, rfl⟩ | ⟨h1, h2⟩
    · refine ⟨?_, ht b hb⟩
      rcases hn b hb with h | h
      · exact (P.rng j A hi b h).1
      · have := P.below.size; omega
    · have := P.rng j C h2 b hb; exact ⟨this.1, Nat.lt_of_lt_of_le this.2 hf.size⟩
  · have := (P.rng i A hi b hA).1; omega

/-- One thing more, in new blocks. -/
theorem Parts.add (P : Parts w0 w L) (hf : Fr (fun _ => False) w w') (hn : ∀ j, A j → w.heap.size ≤ j ∧ j < w'.heap.size) : Parts w0 w' (A :: L) := by
  refine ⟨fun j k C D hC hD hne b hb hb2 => ?_, fun j C hC b hb => ?_, P.below.trans (hf.toBelow _ (fun _ _ h => h) P.below.size)⟩
  · match j, k, hC, hD, hne with
    | 0, 0, _, _, hne => exact hne rfl
    | 0, k + 1, hC, hD, _ =>
      simp only [List.getElem?_cons_zero, Option.some.injEq, List.getElem?_cons_succ] at hC hD
      subst hC
      have h1 := hn b hb; have h2 := P.rng k D hD b hb2; omega
    | j + 1, 0, hC, hD, _ =>
      simp only [List.getElem?_cons_zero, Option.some.injEq, List.getElem?_cons_succ] at hC hD
      subst hD
      have h1 := hn b hb2; have h2 := P.rng j C hC b hb; omega
    | j + 1, k + 1, hC, hD, hne => exact P.dis j k C D (by simpa using hC) (by simpa using hD) (fun e => hne (by rw [e])) b hb hb2
  · match j, hC with
    | 0, hC =>
      simp only [List.getElem?_cons_zero, Option.some.injEq] at hC
      subst hC
      have h1 := hn b hb; have := P.below.size; exact ⟨by omega, h1.2⟩
    | j + 1, hC => have := P.rng j C (by simpa using hC) b hb; exact ⟨this.1, Nat.lt_of_lt_of_le this.2 hf.size⟩

theorem Parts.still (P : Parts w0 w L) (hf : Fr (fun _ => False) w w') : Parts w0 w' L :=
  ⟨P.dis, fun i C h b hb => ⟨(P.rng i C h b hb).1, Nat.lt_of_lt_of_le (P.rng i C h b hb).2 hf.size⟩, P.below.trans (hf.toBelow _ (fun _ _ h => h) P.below.size)⟩
/-- What is one thing's is not another's. -/
theorem Parts.ne (P : Parts w0 w L) (i j : Nat) (hi : L[i]? = some A) (hj : L[j]? = some B) (hne : i ≠ j) : ∀ k, A k → ¬ B k := P.dis i j A B hi hj hne
end

/-- The block of a slice value. -/
def Blk (v : Value) : Nat → Prop := fun k => v.ownBlock = some k

/-- A row of integers that the call owns: nil, or in a block of its own. -/
def IOwn (k : IntKind) (E : TypeId) (w : World) (v : Value) (zs : List Int) : Prop := w.ownsRow 0 E 1 v zs.length (zs.map (Value.int k))
section
variable {k : IntKind} {E : TypeId} {w w' : World} {v v' : Value} {zs : List Int}
theorem IOwn.nil (k : IntKind) (E : TypeId) (w : World) : IOwn k E w (.slice none 0 0) [] := World.ownsRow_nil w 0 E 1
theorem IOwn.shape (h : IOwn k E w v zs) : ∃ a cap, v = .slice a zs.length cap := by
  rcases h.2 with ⟨rfl, h0⟩ | ⟨g, cap, _, rfl, _⟩
  · exact ⟨none, 0, by rw [h0]⟩
  · exact ⟨_, _, rfl⟩
theorem IOwn.get (h : IOwn k E w v zs) (i : Nat) (hi : i < zs.length) :
    ∃ g cap, v = .slice (some ⟨g, 0, none⟩) zs.length cap ∧ g < w.heap.size ∧ (∀ j, j < zs.length → w.cell? ⟨g, j, none⟩ = some (.int k (zs.getD j 0))) ∧ (∀ j, w.frozen? ⟨g, j, none⟩ = false) := by
  rcases h.2 with ⟨rfl, h0⟩ | ⟨g, cap, cur, rfl, hb, hg, rest⟩
  · omega
  · refine ⟨g, cap, rfl, lt_of hg, fun j hj => ?_, fun j => frozen_of hg j⟩
    have h' : w.ownsRow 0 E 1 (.slice (some ⟨g, 0, none⟩) zs.length cap) zs.length (zs.map (Value.int k)) := h
    rw [h'.cellAt j (by omega)]
    simp [hj]
theorem IOwn.frame {S : Nat → Prop} (h : IOwn k E w v zs) (hf : Fr S w w') (hS : ∀ g, Blk v g → ¬ S g) : IOwn k E w' v zs := owns_frame h hf hS
theorem IOwn.low (h : IOwn k E w v zs) : ∀ g, Blk v g → g < w.heap.size := fun g hg => (World.ownsRow.lt h g hg).2
theorem IOwn.app (n : Nat) (x : Int) (hn : n = zs.length) (hA : Appended w w' E 1 v v' (n + 1) (zs.map (Value.int k) ++ [.int k x])) : IOwn k E w' v' (zs ++ [x]) := by
  subst hn
  unfold IOwn
  simpa using hA.own
end
end Go.Mem
namespace Go.Mem
open Go Go.RowKit

/-- What a call may have done to the blocks of S: they have turned into S'. -/
structure Turn (S S' : Nat → Prop) (w w' : World) : Prop where
  fr : Fr S w w'
  new : ∀ j, S' j → S j ∨ w.heap.size ≤ j
theorem Turn.refl {S : Nat → Prop} (w : World) : Turn S S w w := ⟨Fr.refl _ _, fun _ h => .inl h⟩
theorem Turn.trans {S S' S'' : Nat → Prop} {a b c : World} (h : Turn S S' a b) (k : Turn S' S'' b c) : Turn S S'' a c :=
  ⟨h.fr.trans k.fr (fun i hi hs => (h.new i hs).elim id (fun h' => by omega)), fun j hj => by
    rcases k.new j hj with h1 | h1
    · exact h.new j h1
    · have := h.fr.size; exact .inr (by omega)⟩
theorem Turn.of {S : Nat → Prop} {a b : World} (h : Fr S a b) : Turn S S a b := ⟨h, fun _ h => .inl h⟩

/-- A thing in memory: whether it is there, in these blocks. It stays while its blocks stay. -/
structure Thing where
  is : World → (Nat → Prop) → Prop
  low : ∀ {w S}, is w S → ∀ k, S k → k < w.heap.size
  stay : ∀ {w w' S T}, is w S → Fr T w w' → (∀ k, S k → ¬ T k) → is w' S

/-- These things are there, each in blocks of its own that were not there at w0; and what was there at w0 is as it was. -/
def Sep (w0 w : World) (L : List Thing) : Prop :=
  ∃ Ss : List (Nat → Prop), Ss.length = L.length ∧ (∀ (i : Nat) A S, L[i]? = some A → Ss[i]? = some S → A.is w S) ∧ Parts w0 w Ss

section
variable {w0 w w' : World} {L : List Thing} {A B : Thing}
theorem Sep.start (w : World) : Sep w w [] := ⟨[], rfl, fun i _ _ h => by simp at h, Parts.nil w⟩
theorem Sep.below (h : Sep w0 w L) : Below w0.heap.size w0 w := let ⟨_, _, _, p⟩ := h; p.below
theorem Sep.size (h : Sep w0 w L) : w0.heap.size ≤ w.heap.size := h.below.size
theorem Sep.at (h : Sep w0 w L) (i : Nat) (hi : L[i]? = some A) : ∃ S, A.is w S := by
  obtain ⟨Ss, hl, ha, p⟩ := h
  have hil : i < Ss.length := by rw [hl]; exact (List.getElem?_eq_some_iff.1 hi).1
  exact ⟨Ss[i], ha i A _ hi (by simp [hil])⟩
theorem Sep.turn (h : Sep w0 w L) (i : Nat) (hi : L[i]? = some A) (hB : ∀ S, A.is w S → ∃ S', B.is w' S' ∧ Turn S S' w w') : Sep w0 w' (L.set i B) := by
  obtain ⟨Ss, hl, ha, p⟩ := h
  have hil : i < Ss.length := by rw [hl]; exact (List.getElem?_eq_some_iff.1 hi).1
  have hSi : Ss[i]? = some Ss[i] := by simp [hil]
  obtain ⟨S', hB', ht⟩ := hB _ (ha i A _ hi hSi)
  refine ⟨Ss.set i S', by simp [hl], fun j C T hC hT => ?_, p.step i hSi ht.fr ht.new (B.low hB')⟩
  by_cases hj : j = i
  · subst hj
    simp [hil, (List.getElem?_eq_some_iff.1 hi).1] at hC hT
    subst hC; subst hT; exact hB'
  · rw [List.getElem?_set_ne (fun e => hj e.symm)] at hC hT
    exact C.stay (ha j C T hC hT) ht.fr (p.dis j i T _ hT hSi hj)
theorem Sep.use (h : Sep w0 w L) (i : Nat) (hi : L[i]? = some A) : ∃ S, A.is w S ∧ ∀ w' B S', Thing.is B w' S' → Turn S S' w w' → Sep w0 w' (L.set i B) := by
  obtain ⟨Ss, hl, ha, p⟩ := h
  have hil : i < Ss.length := by rw [hl]; exact (List.getElem?_eq_some_iff.1 hi).1
  have hSi : Ss[i]? = some Ss[i] := by simp [hil]
  refine ⟨Ss[i], ha i A _ hi hSi, fun w' B S' hB' ht => ⟨Ss.set i S', by simp [hl], fun j C T hC hT => ?_, p.step i hSi ht.fr ht.new (B.low hB')⟩⟩
  by_cases hj : j = i
  · subst hj
    simp [hil, (List.getElem?_eq_some_iff.1 hi).1] at hC hT
    subst hC; subst hT; exact hB'
  · rw [List.getElem?_set_ne (fun e => hj e.symm)] at hC hT
    exact C.stay (ha j C T hC hT) ht.fr (p.dis j i T _ hT hSi hj)
theorem Sep.still (h : Sep w0 w L) (hf : Fr (fun _ => False) w w') : Sep w0 w' L := by
  obtain ⟨Ss, hl, ha, p⟩ := h
  exact ⟨Ss, hl, fun j C T hC hT => C.stay (ha j C T hC hT) hf (fun _ _ h => h), p.still hf⟩
theorem Sep.belowStep (h : Sep w0 w L) (hb : Below w.heap.size w w') : Sep w0 w' L := h.still (Fr.below hb)
theorem Sep.drew (h : Sep w0 w L) : Sep w0 w.drew L := h.still (Fr.drew _)
theorem Sep.drewN (h : Sep w0 w L) (m : Nat) : Sep w0 (w.drewN m) L := h.still (Fr.drewN _ _)
theorem Sep.alloc (h : Sep w0 w L) (o : Obj) : Sep w0 (w.alloc o) L := h.still (Fr.alloc _ _)
theorem Sep.consNew (h : Sep w0 w L) (hf : Fr (fun _ => False) w w') {S : Nat → Prop} (hB : B.is w' S) (hn : ∀ k, S k → w.heap.size ≤ k) : Sep w0 w' (B :: L) := by
  obtain ⟨Ss, hl, ha, p⟩ := h
  refine ⟨S :: Ss, by simp [hl], fun j C T hC hT => ?_, p.add hf (fun k hk => ⟨hn k hk, B.low hB k hk⟩)⟩
  match j, hC, hT with
  | 0, hC, hT => simp at hC hT; subst hC; subst hT; exact hB
  | j + 1, hC, hT => exact C.stay (ha j C T (by simpa using hC) (by simpa using hT)) hf (fun _ _ h => h)
/-- A thing more, in new blocks. -/
theorem Sep.new (h : Sep w0 w L) (hb : Below w.heap.size w w') {S : Nat → Prop} (hB : B.is w' S) (hn : ∀ k, S k → w.heap.size ≤ k) : Sep w0 w' (B :: L) := h.consNew (Fr.below hb) hB hn
/-- A thing that has no block. -/
theorem Sep.bare (h : Sep w0 w L) (hB : B.is w (fun _ => False)) : Sep w0 w (B :: L) := h.consNew (Fr.refl _ _) hB (fun _ h => h.elim)
theorem Sep.swap (h : Sep w0 w L) (i : Nat) (hi : L[i]? = some A) (hB : ∀ S, A.is w S → ∃ S', B.is w S' ∧ ∀ k, S' k → S k) : Sep w0 w (L.set i B) :=
  h.turn i hi fun S hS => let ⟨S', h1, h2⟩ := hB S hS; ⟨S', h1, Fr.refl _ _, fun k hk => .inl (h2 k hk)⟩
theorem Sep.tail (h : Sep w0 w (A :: L)) : Sep w0 w L := by
  obtain ⟨Ss, hl, ha, p⟩ := h
  match Ss, hl with
  | S :: Ss, hl =>
    refine ⟨Ss, by simpa using hl, fun j C T hC hT => ha (j + 1) C T (by simpa using hC) (by simpa using hT), fun i j C D hC hD hne => p.dis (i + 1) (j + 1) C D (by simpa using hC) (by simpa using hD) (by omega), fun i C hC => p.rng (i + 1) C (by simpa using hC), p.below⟩
/-- The first ones alone. -/
theorem Sep.takeN (h : Sep w0 w L) (n : Nat) : Sep w0 w (L.take n) := by
  obtain ⟨Ss, hl, ha, p⟩ := h
  have look : ∀ {α : Type _} (l : List α) (j : Nat) (x : α), (l.take n)[j]? = some x → l[j]? = some x := by
    intro α l j x hx
    rw [List.getElem?_take] at hx
    split at hx
    · exact hx
    · cases hx
  exact ⟨Ss.take n, by simp [hl], fun j C T hC hT => ha j C T (look _ _ _ hC) (look _ _ _ hT), fun i j C D hC hD hne => p.dis i j C D (look _ _ _ hC) (look _ _ _ hD) hne, fun i C hC => p.rng i C (look _ _ _ hC), p.below⟩
/-- Two of them are apart. -/
theorem Sep.apart (h : Sep w0 w L) (i j : Nat) (hi : L[i]? = some A) (hj : L[j]? = some B) (hne : i ≠ j) : ∃ S T, A.is w S ∧ B.is w T ∧ ∀ k, S k → ¬ T k := by
  obtain ⟨Ss, hl, ha, p⟩ := h
  have hil : i < Ss.length := by rw [hl]; exact (List.getElem?_eq_some_iff.1 hi).1
  have hjl : j < Ss.length := by rw [hl]; exact (List.getElem?_eq_some_iff.1 hj).1
  exact ⟨Ss[i], Ss[j], ha i A _ hi (by simp [hil]), ha j B _ hj (by simp [hjl]), p.dis i j _ _ (by simp [hil]) (by simp [hjl]) hne⟩
theorem Sep.fresh (h : Sep w0 w L) (i : Nat) (hi : L[i]? = some A) : ∃ S, A.is w S ∧ ∀ k, S k → w0.heap.size ≤ k := by
  obtain ⟨Ss, hl, ha, p⟩ := h
  have hil : i < Ss.length := by rw [hl]; exact (List.getElem?_eq_some_iff.1 hi).1
  exact ⟨Ss[i], ha i A _ hi (by simp [hil]), fun k hk => (p.rng i _ (by simp [hil]) k hk).1⟩
/-- Whatever was there when things began reads as it did. -/
theorem Sep.cell (h : Sep w0 w L) {b o : Nat} (hb : b < w0.heap.size) : w.cell? ⟨b, o, none⟩ = w0.cell? ⟨b, o, none⟩ := h.below.cell (p := ⟨b, o, none⟩) hb
end

/-- One block of cells, known whole. -/
def cellsT (b : Nat) (cs : Array Value) (E : TypeId) : Thing where
  is w S := S = (· = b) ∧ w.heap[b]? = some (.cells cs E (0, 0))
  low := by rintro w S ⟨rfl, h⟩ k rfl; exact lt_of h
  stay := by rintro w w' S T ⟨rfl, h⟩ hf hd; exact ⟨rfl, (hf.block b (lt_of h) (hd b rfl)).trans h⟩
/-- A row of integers that the call owns. -/
def intsT (k : IntKind) (E : TypeId) (v : Value) (zs : List Int) : Thing where
  is w S := S = Blk v ∧ IOwn k E w v zs
  low := by rintro w S ⟨rfl, h⟩ j hj; exact h.low j hj
  stay := by rintro w w' S T ⟨rfl, h⟩ hf hd; exact ⟨rfl, h.frame hf hd⟩
/-- A row of cells that the call owns: 'n' elements of type E, of 'size' cells each. -/
def rowT (E : TypeId) (size : Nat) (v : Value) (n : Nat) (xs : List Value) : Thing where
  is w S := S = Blk v ∧ w.ownsRow 0 E size v n xs
  low := by rintro w S ⟨rfl, h⟩ j hj; exact (World.ownsRow.lt h j hj).2
  stay := by rintro w w' S T ⟨rfl, h⟩ hf hd; exact ⟨rfl, owns_frame h hf hd⟩

section
variable {w0 w w' : World} {L : List Thing}
theorem Sep.nilInts (h : Sep w0 w L) (k : IntKind) (E : TypeId) : Sep w0 w (intsT k E (.slice none 0 0) [] :: L) :=
  h.bare ⟨funext fun j => by simp [Blk, Value.ownBlock], IOwn.nil k E w⟩
theorem Sep.ints {k : IntKind} {E : TypeId} {v : Value} {zs : List Int} (h : Sep w0 w L) (i : Nat) (hi : L[i]? = some (intsT k E v zs)) : IOwn k E w v zs := let ⟨_, h⟩ := h.at i hi; h.2
theorem Sep.row {E : TypeId} {size n : Nat} {v : Value} {xs : List Value} (h : Sep w0 w L) (i : Nat) (hi : L[i]? = some (rowT E size v n xs)) : w.ownsRow 0 E size v n xs := let ⟨_, h⟩ := h.at i hi; h.2
theorem Sep.cells {b : Nat} {cs : Array Value} {E : TypeId} (h : Sep w0 w L) (i : Nat) (hi : L[i]? = some (cellsT b cs E)) : w.heap[b]? = some (.cells cs E (0, 0)) := let ⟨_, h⟩ := h.at i hi; h.2
theorem Sep.appInts {k : IntKind} {E : TypeId} {v v' : Value} {zs : List Int} {x : Int} (h : Sep w0 w L) (i : Nat) (hi : L[i]? = some (intsT k E v zs)) {n : Nat} (hn : n = zs.length)
    (hA : Appended w w' E 1 v v' (n + 1) (zs.map (Value.int k) ++ [.int k x])) : Sep w0 w' (L.set i (intsT k E v' (zs ++ [x]))) :=
  h.turn i hi fun S hS => ⟨Blk v', ⟨rfl, IOwn.app n x hn hA⟩, by rw [hS.1]; exact hA.fr, by rw [hS.1]; exact hA.block⟩
theorem Sep.appRow {E : TypeId} {size n m : Nat} {v v' : Value} {xs ys : List Value} (h : Sep w0 w L) (i : Nat) (hi : L[i]? = some (rowT E size v n xs))
    (hA : Appended w w' E size v v' m ys) : Sep w0 w' (L.set i (rowT E size v' m ys)) :=
  h.turn i hi fun S hS => ⟨Blk v', ⟨rfl, hA.own⟩, by rw [hS.1]; exact hA.fr, by rw [hS.1]; exact hA.block⟩
theorem Sep.newCells (h : Sep w0 w L) (cs : Array Value) (E : TypeId) : Sep w0 (w.alloc (.cells cs E)) (cellsT w.heap.size cs E :: L) :=
  h.consNew (Fr.alloc _ _) ⟨rfl, heap_alloc_new w _⟩ (fun _ hk => Nat.le_of_eq (Eq.symm hk))
end
end Go.Mem
namespace Go.Mem
open Go Go.RowKit

/-- A slice of integers, read: its elements' cells, one behind the other. -/
def Rd (k : IntKind) (w : World) (v : Value) (zs : List Int) : Prop :=
  ∃ a cap, v = .slice a zs.length cap ∧ zs.length ≤ maxLen ∧ (a = none → cap = 0) ∧ (0 < zs.length → ∃ b off, a = some ⟨b, off, none⟩ ∧ b < w.heap.size ∧ ∀ j, j < zs.length → w.cell? ⟨b, off + j, none⟩ = some (.int k (zs.getD j 0)))

section
variable {k : IntKind} {w w' : World} {v : Value} {zs : List Int} {a : Option Addr} {n cap : Nat}
theorem Rd.at (h : Rd k w (.slice a n cap) zs) (i : Nat) (hi : i < zs.length) : ∃ b off, a = some ⟨b, off, none⟩ ∧ b < w.heap.size ∧ w.cell? ⟨b, off + i, none⟩ = some (.int k (zs.getD i 0)) := by
  obtain ⟨a', cap', e, _, _, hc⟩ := h
  injection e with e1 _ _
  obtain ⟨b, off, rfl, hb, hc⟩ := hc (by omega)
  exact ⟨b, off, e1, hb, hc i hi⟩
theorem Rd.len (h : Rd k w (.slice a n cap) zs) : n = zs.length := by
  obtain ⟨a', cap', e, _⟩ := h
  injection e
theorem Rd.le (h : Rd k w v zs) : zs.length ≤ maxLen := let ⟨_, _, _, h, _⟩ := h; h
theorem Rd.le' (h : Rd k w v zs) : zs.length ≤ 9223372036854775807 := by have := h.le; unfold maxLen at this; exact this
theorem Rd.shape (h : Rd k w v zs) : ∃ a cap, v = .slice a zs.length cap := let ⟨a, cap, e, _⟩ := h; ⟨a, cap, e⟩
theorem Rd.below (h : Rd k w v zs) (hb : Below w.heap.size w w') : Rd k w' v zs := by
  obtain ⟨a, cap, e, hl, hn, hc⟩ := h
  refine ⟨a, cap, e, hl, hn, fun h0 => ?_⟩
  obtain ⟨b, off, e, hlt, hc⟩ := hc h0
  exact ⟨b, off, e, Nat.lt_of_lt_of_le hlt hb.size, fun j hj => (hb.cell (p := ⟨b, off + j, none⟩) hlt).trans (hc j hj)⟩
theorem Rd.nil (k : IntKind) (w : World) : Rd k w (.slice none 0 0) [] := ⟨none, 0, rfl, by simp, fun _ => rfl, fun h => by simp at h⟩
theorem Rd.ofCells {b : Nat} {E : TypeId} {fr : Nat × Nat} (zs : List Int) (h : w.heap[b]? = some (.cells (zs.map (Value.int k)).toArray E fr)) (cap : Nat) (hl : zs.length ≤ maxLen) : Rd k w (.slice (some ⟨b, 0, none⟩) zs.length cap) zs := by
  refine ⟨_, cap, rfl, hl, by simp, fun _ => ⟨b, 0, rfl, lt_of h, fun j hj => ?_⟩⟩
  rw [Nat.zero_add, cell_of h]
  simp [hj]
theorem IsRow.rd {len cap : Nat} {zs : List Int} (h : IsRow k w a len cap zs) : Rd k w (.slice a len cap) (zs.take len) ∧ ∀ x ∈ zs.take len, (Lit.int k x).wf = true := by
  have hg := h.get
  rcases h with ⟨rfl, rfl, rfl, rfl⟩ | ⟨x, rfl, hl, hm, hz, hc, hw⟩
  · exact ⟨by simpa using Rd.nil k w, by simp⟩
  · have hlen : (zs.take len).length = len := by simp; omega
    refine ⟨⟨some x, cap, by rw [hlen], by omega, by simp, fun h0 => ?_⟩, fun y hy => hw y (List.mem_of_mem_take hy)⟩
    obtain ⟨b, off, e, hb, hc⟩ := hg 0 (by omega)
    refine ⟨b, off, e, hb, fun j hj => ?_⟩
    rw [hc j (by omega)]
    have hj' : j < len := by omega
    have hj2 : j < zs.length := by omega
    simp [List.getD, List.getElem?_take, hj', hj2]
theorem IOwn.rd {E : TypeId} (h : IOwn k E w v zs) : Rd k w v zs := by
  have hg := h.get
  have h' := h
  rcases h.2 with ⟨rfl, h0⟩ | ⟨g, cap, cur, rfl, hb, hgg, hnc, hcm, rest⟩
  · obtain rfl : zs = [] := List.eq_nil_of_length_eq_zero h0
    exact Rd.nil k w
  · refine ⟨some ⟨g, 0, none⟩, cap, rfl, by omega, by simp, fun h0 => ?_⟩
    obtain ⟨g', cap', e, hb, hc, _⟩ := hg 0 h0
    injection e with e1 _ _
    refine ⟨g', 0, e1, hb, fun j hj => ?_⟩
    rw [Nat.zero_add]; exact hc j hj
end

theorem Parts.join {w0 w w' : World} {L M : List (Nat → Prop)} (h : Parts w0 w L) (k : Parts w w' M) : Parts w0 w' (M ++ L) := by
  have look : ∀ (j : Nat) C, (M ++ L)[j]? = some C → (j < M.length ∧ M[j]? = some C) ∨ (M.length ≤ j ∧ L[j - M.length]? = some C) := by
    intro j C hC
    rcases Nat.lt_or_ge j M.length with hj | hj
    · rw [List.getElem?_append_left hj] at hC; exact .inl ⟨hj, hC⟩
    · rw [List.getElem?_append_right hj] at hC; exact .inr ⟨hj, hC⟩
  refine ⟨fun i j A B hA hB hne b hb hb2 => ?_, fun i A hA b hb => ?_, h.below.trans (k.below.mono h.below.size)⟩
  · rcases look i A hA with ⟨h1, h2⟩ | ⟨h1, h2⟩ <;> rcases look j B hB with ⟨h3, h4⟩ | ⟨h3, h4⟩
    · exact k.dis i j A B h2 h4 hne b hb hb2
    · have := (k.rng i A h2 b hb).1; have := (h.rng _ B h4 b hb2).2; omega
    · have := (k.rng j B h4 b hb2).1; have := (h.rng _ A h2 b hb).2; omega
    · exact h.dis _ _ A B h2 h4 (by omega) b hb hb2
  · rcases look i A hA with ⟨h1, h2⟩ | ⟨h1, h2⟩
    · have := k.rng i A h2 b hb; have := h.below.size; exact ⟨by omega, by omega⟩
    · have := h.rng _ A h2 b hb; have := k.below.size; exact ⟨by omega, by omega⟩

section
variable {w0 w w' : World} {L M : List Thing}
/-- What a call leaves, beside all that was there. -/
theorem Sep.join (h : Sep w0 w L) (k : Sep w w' M) : Sep w0 w' (M ++ L) := by
  have hb := k.below
  obtain ⟨Ss, hl, ha, p⟩ := h
  obtain ⟨Ts, kl, ka, q⟩ := k
  refine ⟨Ts ++ Ss, by simp [hl, kl], fun j C T hC hT => ?_, p.join q⟩
  rcases Nat.lt_or_ge j M.length with hj | hj
  · rw [List.getElem?_append_left hj] at hC
    rw [List.getElem?_append_left (by omega)] at hT
    exact ka j C T hC hT
  · rw [List.getElem?_append_right hj] at hC
    rw [List.getElem?_append_right (by omega), kl] at hT
    exact C.stay (ha _ C T hC hT) (Fr.below (S := fun _ => False) hb) (fun _ _ h => h)
theorem Sep.ofBelow (h : Below w.heap.size w w') : Sep w w' [] := (Sep.start w).belowStep h
theorem Sep.rdInts {k : IntKind} {E : TypeId} {v : Value} {zs : List Int} (h : Sep w0 w L) (i : Nat) (hi : L[i]? = some (intsT k E v zs)) : Rd k w v zs := (h.ints i hi).rd
theorem Sep.rd {k : IntKind} {v : Value} {zs : List Int} (h : Sep w0 w L) (hr : Rd k w0 v zs) : Rd k w v zs := hr.below h.below
/-- One element of an own row is written. -/
theorem Sep.setInts {k : IntKind} {E : TypeId} {g n cap j : Nat} {zs : List Int} (h : Sep w0 w L) (i : Nat) (hi : L[i]? = some (intsT k E (.slice (some ⟨g, 0, none⟩) n cap) zs)) (x : Int) :
    Sep w0 (w.setCell ⟨g, j, none⟩ (.int k x)) (L.set i (intsT k E (.slice (some ⟨g, 0, none⟩) n cap) (zs.set j x))) :=
  h.turn i hi fun S hS => by
    obtain ⟨rfl, hS⟩ := hS
    refine ⟨_, ⟨rfl, ?_⟩, ?_, fun j hj => .inl hj⟩
    · obtain ⟨_, _, e⟩ := hS.shape
      injection e with _ e2 _
      subst e2
      unfold IOwn at hS
      have h1 := (World.ownsRow.stored hS j (.int k x)).1
      unfold IOwn
      rw [List.length_set, List.map_set]
      exact h1
    · exact Fr.setCell _ _ _ rfl
end

/-- A row of integers that has just been laid, its numbers known. -/
theorem Sep.litInts {w0 w : World} {L : List Thing} (h : Sep w0 w L) (k : IntKind) (E : TypeId) (zs : List Int) (hl : zs.length ≤ maxLen) :
    Sep w0 (w.alloc (.cells (zs.map (Value.int k)).toArray E)) (intsT k E (.slice (some ⟨w.heap.size, 0, none⟩) zs.length zs.length) zs :: L) := by
  refine h.consNew (S := Blk (.slice (some ⟨w.heap.size, 0, none⟩) zs.length zs.length)) (Fr.alloc _ _) ⟨rfl, ?_⟩ (fun j hj => ?_)
  · refine ⟨by simp, .inr ⟨w.heap.size, zs.length, _, rfl, Nat.zero_le _, heap_alloc_new w _, Nat.le_refl _, hl, by simp, ?_⟩⟩
    rw [List.take_of_length_le] <;> simp
  · simp [Blk, Value.ownBlock] at hj; omega

section
variable {P : Program} {w0 w : World} {L : List Thing}
theorem run_append_none {w : World} (t ty e : TypeId) (i : TypeInfo) (size : Nat) (ht : P.underlying t = some (.slice e)) (hi : P.info? e = some i)
    (v : Value) (n : Nat) (xs : List Value) (hown : w.ownsRow 0 e size v n xs) : (Builtin.append_ #[t, t] ty #[v, .slice none 0 0]).run P w = .ok v w := by
  rcases hown.2 with ⟨rfl, rfl⟩ | ⟨g, cap, cur, rfl, hb, hg, hnc, hcm, hcs, htake⟩
  · simp [Builtin.append_, run_underlying ht, sizeOf, typeInfo, hi, Builtin.lenOf, Builtin.firstCells]
  · simp [Builtin.append_, run_underlying ht, sizeOf, typeInfo, hi, Builtin.lenOf, Builtin.firstCells, hnc, storeCells]
/-- 's = append(s, xs...)' of integers. -/
theorem wpList_appRd {ops : Array Oper} {rest : List Oper} {o : Oper} {a : Act} {Q : Exit → Act → World → Prop} (hgd : o.guard = none) (s x : Operand) (t : TypeId)
    (ho : o.op = .call { callee := .builtin .append, args := #[s, x], argTypes := #[t, t] })
    (e : TypeId) (i : TypeInfo) (z : Value) (bytes : Nat) (ht : P.underlying t = some (.slice e)) (hi : P.info? e = some i) (hz : i.zero = some z)
    (hsize : i.size = 1) (hby : i.bytes = bytes) (hzs : z.cells.size = 1)
    (v : Value) (zs : List Int) (k : IntKind) (y : Value) (ys : List Int) (hsep : Sep w0 w L) (j : Nat) (hj : L[j]? = some (intsT k e v zs)) (hr : Rd k w y ys)
    (hs : a.eval s = v) (hx : a.eval x = y)
    (h63 : zs.length + ys.length ≤ maxLen) (hbytes : (zs.length + ys.length) * bytes ≤ 140737488355328)
    (h : ∀ v' w', Sep w0 w' (L.set j (intsT k e v' (zs ++ ys))) → wpList P ops Q rest (a.put o.dst v') w') :
    wpList P ops Q (o :: rest) a w := by
  refine wpList_plain hgd fun K hK => ?_
  have hown := hsep.ints j hj
  unfold IOwn at hown
  obtain ⟨ad, cap, rfl, hlm, hnc, hc⟩ := hr
  match ad, hnc, hc with
  | none, hnc, hc =>
    have hc0 := hnc rfl
    have hy0 : ys = [] := by
      rcases ys with _ | ⟨q, ys⟩
      · rfl
      · obtain ⟨b, off, e, _⟩ := hc (by simp); cases e
    subst hy0; subst hc0
    have hr := run_append_none (P := P) t o.type e i 1 ht hi v zs.length _ hown
    unfold Oper.wp execOp
    simp only [ho, resolve, invoke, builtin, Sem.run_bind, Sem.run_pure, Result.andThen_ok, List.map_toArray, List.map_cons, List.map_nil, hs, hx, List.length_nil, hr]
    have h2 := h v w (by rw [List.append_nil]; have : L.set j (intsT k e v zs) = L := by obtain ⟨hlt, he⟩ := List.getElem?_eq_some_iff.1 hj; rw [← he]; exact List.set_getElem_self _
                         rw [this]; exact hsep)
    exact hK _ _ h2
  | some ad, hnc, hc =>
    have hnews : ∀ j u, (ys.map (Value.int k))[j]? = some u → w.cell? (ad.add j) = some u := by
      intro j u hu
      have hj : j < ys.length := by have := (List.getElem?_eq_some_iff.1 hu).1; simpa using this
      obtain ⟨b, off, e, hb, hcell⟩ := hc (by omega)
      injection e with e
      subst e
      have hadd : (⟨b, off, none⟩ : Addr).add j = ⟨b, off + j, none⟩ := by unfold Addr.add; split <;> simp_all
      rw [hadd, hcell j hj]
      simpa [hj] using hu
    obtain ⟨v', w', hr, hA⟩ := run_append (P := P) (w := w) t o.type e i z 1 bytes ht hi hz hsize hby hzs (by omega) v zs.length _ hown ad ys.length cap (ys.map (Value.int k)) (by simp) hnews
      (by intro u hu; obtain ⟨q, _, rfl⟩ := List.mem_map.1 hu; rfl) h63 hbytes
    unfold Oper.wp execOp
    simp only [ho, resolve, invoke, builtin, Sem.run_bind, Sem.run_pure, Result.andThen_ok, List.map_toArray, List.map_cons, List.map_nil, hs, hx, hr]
    refine hK _ _ (h v' w' (hsep.turn j hj fun S hS => ⟨Blk v', ⟨rfl, ?_⟩, by rw [hS.1]; exact hA.fr, by rw [hS.1]; exact hA.block⟩))
    unfold IOwn
    simpa using hA.own
theorem madeCells_int (k : IntKind) (n : Nat) : madeCells (Value.int k 0).cells (n * 1) = ((List.replicate n 0).map (Value.int k)).toArray := by
  apply Array.ext'
  simp only [madeCells, Value.cells, Nat.mul_one, List.map_replicate]
  apply List.ext_getElem
  · simp
  · intro i h1 h2
    simp [Nat.mod_one]
/-- 'make([]int, n)'. -/
theorem wpList_makeInts {ops : Array Oper} {rest : List Oper} {o : Oper} {a : Act} {Q : Exit → Act → World → Prop} (hgd : o.guard = none) (x y : Operand) (t : TypeId)
    (ho : o.op = .makeSlice t x y) (e : TypeId) (i : TypeInfo) (k : IntKind) (bytes : Nat) (ht : P.underlying t = some (.slice e)) (hi : P.info? e = some i) (hz : i.zero = some (.int k 0))
    (hsize : i.size = 1) (hby : i.bytes = bytes) (n : Nat) (kl kc : IntKind) (hx : a.eval x = .int kl n) (hy : a.eval y = .int kc n) (hsep : Sep w0 w L)
    (h63 : n ≤ maxLen) (hbytes : bytes * n ≤ 281474976710656)
    (h : ∀ w' g, Sep w0 w' (intsT k e (.slice (some ⟨g, 0, none⟩) n n) (List.replicate n 0) :: L) → wpList P ops Q rest (a.put o.dst (.slice (some ⟨g, 0, none⟩) n n)) w') :
    wpList P ops Q (o :: rest) a w := by
  refine wpList_plain hgd fun K hK => ?_
  have hb : (i.bytes : Int) * (n : Int) ≤ 281474976710656 := by
    rw [hby]
    have : ((bytes * n : Nat) : Int) ≤ 281474976710656 := by omega
    rwa [Int.natCast_mul] at this
  have h63' := h63
  simp only [maxLen] at h63'
  have hr := run_make (P := P) w t e i (.int k 0) ht hi hz kl kc (n : Int) (n : Int) (by omega) (Int.le_refl _) hb (by omega)
  simp only [Int.toNat_natCast, hsize, madeCells_int] at hr
  have hs := hsep.litInts k e (List.replicate n 0) (by simpa using h63)
  simp only [List.length_replicate] at hs
  unfold Oper.wp execOp
  simp only [ho, hx, hy, Sem.run_bind, Sem.run_pure, Result.andThen_ok, hr]
  exact hK _ _ (h _ _ hs)
/-- 's = append(s, x)' of integers: ONE MORE; x lies in block B. -/
theorem wpList_appIntB {ops : Array Oper} {rest : List Oper} {o : Oper} {a : Act} {Q : Exit → Act → World → Prop} (hgd : o.guard = none) (s x : Operand) (t : TypeId)
    (ho : o.op = .call { callee := .builtin .append, args := #[s, x], argTypes := #[t, t] })
    (e : TypeId) (i : TypeInfo) (z : Value) (bytes : Nat) (ht : P.underlying t = some (.slice e)) (hi : P.info? e = some i) (hz : i.zero = some z)
    (hsize : i.size = 1) (hby : i.bytes = bytes) (hzs : z.cells.size = 1)
    (v : Value) (zs : List Int) (k : IntKind) (q : Int) (hsep : Sep w0 w L) (j : Nat) (hj : L[j]? = some (intsT k e v zs)) (B : Nat) (hB : w.heap[B]? = some (.cells #[.int k q] e (0, 0)))
    (hs : a.eval s = v) (hx : a.eval x = .slice (some ⟨B, 0, none⟩) 1 1)
    (h63 : zs.length + 1 ≤ maxLen) (hbytes : (zs.length + 1) * bytes ≤ 140737488355328)
    (h : ∀ v' w', Sep w0 w' (L.set j (intsT k e v' (zs ++ [q]))) → Hid (∃ g cap, v' = .slice (some ⟨g, 0, none⟩) (zs.length + 1) cap) → wpList P ops Q rest (a.put o.dst v') w') :
    wpList P ops Q (o :: rest) a w := by
  have hown := hsep.ints j hj
  unfold IOwn at hown
  refine wpList_append1 hgd s x t ho e i z 1 bytes ht hi hz hsize hby hzs (by omega) v zs.length _ hs hown B _ _ _ hx hB rfl (by simp [Value.oneCell']) h63 hbytes ?_
  intro v' w' hA
  refine h v' w' (hsep.appInts j hj rfl hA) (hA.shape (by omega))
/-- x lies in the block that has just been laid for it. -/
theorem wpList_appInt {ops : Array Oper} {rest : List Oper} {o : Oper} {a : Act} {Q : Exit → Act → World → Prop} (hgd : o.guard = none) (s x : Operand) (t : TypeId)
    (ho : o.op = .call { callee := .builtin .append, args := #[s, x], argTypes := #[t, t] })
    (e : TypeId) (i : TypeInfo) (z : Value) (bytes : Nat) (ht : P.underlying t = some (.slice e)) (hi : P.info? e = some i) (hz : i.zero = some z)
    (hsize : i.size = 1) (hby : i.bytes = bytes) (hzs : z.cells.size = 1)
    (v : Value) (zs : List Int) (k : IntKind) (q : Int) (hsep : Sep w0 w L) (j : Nat) (hj : L[j]? = some (intsT k e v zs)) (hs : a.eval s = v) (hx : a.eval x = .slice (some ⟨w.heap.size, 0, none⟩) 1 1)
    (h63 : zs.length + 1 ≤ maxLen) (hbytes : (zs.length + 1) * bytes ≤ 140737488355328)
    (h : ∀ v' w', Sep w0 w' (L.set j (intsT k e v' (zs ++ [q]))) → Hid (∃ g cap, v' = .slice (some ⟨g, 0, none⟩) (zs.length + 1) cap) → wpList P ops Q rest (a.put o.dst v') w') :
    wpList P ops Q (o :: rest) a (w.alloc (.cells #[.int k q] e)) :=
  wpList_appIntB hgd s x t ho e i z bytes ht hi hz hsize hby hzs v zs k q (hsep.alloc _) j hj w.heap.size (heap_alloc_new w _) hs hx h63 hbytes h
end
end Go.Mem
namespace Go.Mem
open Go Go.RowKit

/-- How an element lies in cells. -/
structure Rec (α : Type) where
  m : Nat
  cells : α → List Value
  len : ∀ x, (cells x).length = m
  one : ∀ x, ∀ u ∈ cells x, u.oneCell' = true
  pos : 0 < m

section
variable {α : Type} (R : Rec α)
def Rec.flat (xs : List α) : List Value := xs.flatMap R.cells
theorem Rec.flat_length (xs : List α) : (R.flat xs).length = xs.length * R.m := by
  induction xs with
  | nil => simp [Rec.flat]
  | cons x t ih => simp only [Rec.flat, List.flatMap_cons, List.length_append, R.len, List.length_cons] at ih ⊢; rw [ih, Nat.add_mul]; omega
theorem Rec.flat_get : ∀ (xs : List α) (i : Nat) (hi : i < xs.length) (j : Nat), j < R.m → (R.flat xs)[i * R.m + j]? = (R.cells xs[i])[j]?
  | [], i, hi, _, _ => by simp at hi
  | x :: t, 0, _, j, hj => by
    simp only [Rec.flat, List.flatMap_cons, Nat.zero_mul, Nat.zero_add]
    rw [List.getElem?_append_left (by rw [R.len]; exact hj)]
    rfl
  | x :: t, i + 1, hi, j, hj => by
    have := Rec.flat_get t i (by simpa using hi) j hj
    simp only [Rec.flat, List.flatMap_cons] at this ⊢
    rw [List.getElem?_append_right (by rw [R.len, Nat.add_mul]; omega), R.len, show (i + 1) * R.m + j - R.m = i * R.m + j by rw [Nat.add_mul]; omega, this]
    rfl
theorem Rec.flat_append (xs ys : List α) : R.flat (xs ++ ys) = R.flat xs ++ R.flat ys := by simp [Rec.flat]
theorem Rec.flat_one (xs : List α) : ∀ u ∈ R.flat xs, u.oneCell' = true := by
  intro u hu
  obtain ⟨x, _, hx⟩ := List.mem_flatMap.1 hu
  exact R.one x u hx

/-- A slice of records, read. -/
def RdG (w : World) (v : Value) (xs : List α) : Prop :=
  ∃ a cap, v = .slice a xs.length cap ∧ xs.length ≤ maxLen ∧ (a = none → cap = 0) ∧ (0 < xs.length → ∃ b off, a = some ⟨b, off, none⟩ ∧ b < w.heap.size ∧ ∀ (i : Nat) (hi : i < xs.length) (j : Nat), j < R.m → w.cell? ⟨b, off + i * R.m + j, none⟩ = (R.cells xs[i])[j]?)
end

section
variable {α : Type} {R : Rec α} {w w' : World} {v : Value} {xs : List α} {a : Option Addr} {n cap : Nat}
theorem RdG.at (h : RdG R w (.slice a n cap) xs) (i : Nat) (hi : i < xs.length) : ∃ b off, a = some ⟨b, off, none⟩ ∧ b < w.heap.size ∧ ∀ j, j < R.m → w.cell? ⟨b, off + i * R.m + j, none⟩ = (R.cells xs[i])[j]? := by
  obtain ⟨a', cap', e, _, _, hc⟩ := h
  injection e with e1 _ _
  obtain ⟨b, off, rfl, hb, hc⟩ := hc (by omega)
  exact ⟨b, off, e1, hb, hc i hi⟩
theorem RdG.le (h : RdG R w v xs) : xs.length ≤ maxLen := let ⟨_, _, _, h, _⟩ := h; h
theorem RdG.le' (h : RdG R w v xs) : xs.length ≤ 9223372036854775807 := by have := h.le; unfold maxLen at this; exact this
theorem RdG.shape (h : RdG R w v xs) : ∃ a cap, v = .slice a xs.length cap := let ⟨a, cap, e, _⟩ := h; ⟨a, cap, e⟩
theorem RdG.below (h : RdG R w v xs) (hb : Below w.heap.size w w') : RdG R w' v xs := by
  obtain ⟨a, cap, e, hl, hn, hc⟩ := h
  refine ⟨a, cap, e, hl, hn, fun h0 => ?_⟩
  obtain ⟨b, off, e, hlt, hc⟩ := hc h0
  exact ⟨b, off, e, Nat.lt_of_lt_of_le hlt hb.size, fun i hi j hj => (hb.cell (p := ⟨b, off + i * R.m + j, none⟩) hlt).trans (hc i hi j hj)⟩
theorem RdG.nil (R : Rec α) (w : World) : RdG R w (.slice none 0 0) [] := ⟨none, 0, rfl, by simp, fun _ => rfl, fun h => by simp at h⟩
end

/-- A row of records that the call owns. -/
def ROwn {α : Type} (R : Rec α) (E : TypeId) (w : World) (v : Value) (xs : List α) : Prop := w.ownsRow 0 E R.m v xs.length (R.flat xs)
section
variable {α : Type} {R : Rec α} {E : TypeId} {w w' : World} {v v' : Value} {xs : List α}
theorem ROwn.nil (R : Rec α) (E : TypeId) (w : World) : ROwn R E w (.slice none 0 0) [] := World.ownsRow_nil w 0 E R.m
theorem ROwn.shape (h : ROwn R E w v xs) : ∃ a cap, v = .slice a xs.length cap := by
  rcases h.2 with ⟨rfl, h0⟩ | ⟨g, cap, _, rfl, _⟩
  · exact ⟨none, 0, by rw [h0]⟩
  · exact ⟨_, _, rfl⟩
theorem ROwn.get (h : ROwn R E w v xs) (i : Nat) (hi : i < xs.length) :
    ∃ g cap, v = .slice (some ⟨g, 0, none⟩) xs.length cap ∧ g < w.heap.size ∧ (∀ (i : Nat) (hi : i < xs.length) (j : Nat), j < R.m → w.cell? ⟨g, i * R.m + j, none⟩ = (R.cells xs[i])[j]?) ∧ (∀ j, w.frozen? ⟨g, j, none⟩ = false) := by
  rcases h.2 with ⟨rfl, h0⟩ | ⟨g, cap, cur, rfl, hb, hg, rest⟩
  · omega
  · refine ⟨g, cap, rfl, lt_of hg, fun i hi j hj => ?_, fun j => frozen_of hg j⟩
    have h' : w.ownsRow 0 E R.m (.slice (some ⟨g, 0, none⟩) xs.length cap) xs.length (R.flat xs) := h
    have hb : i * R.m + j < xs.length * R.m := by
      have : (i + 1) * R.m ≤ xs.length * R.m := Nat.mul_le_mul_right _ hi
      rw [Nat.add_mul] at this; omega
    rw [h'.cellAt _ hb, R.flat_get xs i hi j hj]
theorem ROwn.rd (h : ROwn R E w v xs) : RdG R w v xs := by
  have hg := h.get
  rcases h.2 with ⟨rfl, h0⟩ | ⟨g, cap, cur, rfl, hb, hgg, hnc, hcm, rest⟩
  · obtain rfl : xs = [] := List.eq_nil_of_length_eq_zero h0
    exact RdG.nil R w
  · refine ⟨some ⟨g, 0, none⟩, cap, rfl, by omega, by simp, fun h0 => ?_⟩
    obtain ⟨g', cap', e, hb, hc, _⟩ := hg 0 h0
    injection e with e1 _ _
    refine ⟨g', 0, e1, hb, fun i hi j hj => ?_⟩
    rw [Nat.zero_add]; exact hc i hi j hj
end
/-- A row of records that the call owns, as a thing in memory. -/
def recT {α : Type} (R : Rec α) (E : TypeId) (v : Value) (xs : List α) : Thing where
  is w S := S = Blk v ∧ ROwn R E w v xs
  low := by rintro w S ⟨rfl, h⟩ j hj; exact (World.ownsRow.lt h j hj).2
  stay := by rintro w w' S T ⟨rfl, h⟩ hf hd; exact ⟨rfl, owns_frame h hf hd⟩
section
variable {α : Type} {R : Rec α} {E : TypeId} {w0 w w' : World} {L : List Thing} {v v' : Value} {xs : List α}
theorem Sep.recs (h : Sep w0 w L) (i : Nat) (hi : L[i]? = some (recT R E v xs)) : ROwn R E w v xs := let ⟨_, h⟩ := h.at i hi; h.2
theorem Sep.rdRecs (h : Sep w0 w L) (i : Nat) (hi : L[i]? = some (recT R E v xs)) : RdG R w v xs := (h.recs i hi).rd
theorem Sep.rdG (h : Sep w0 w L) (hr : RdG R w0 v xs) : RdG R w v xs := hr.below h.below
theorem Sep.nilRecs (h : Sep w0 w L) (R : Rec α) (E : TypeId) : Sep w0 w (recT R E (.slice none 0 0) [] :: L) :=
  h.bare ⟨funext fun j => by simp [Blk, Value.ownBlock], ROwn.nil R E w⟩
/-- A row of records that has just been laid. -/
theorem Sep.litRecs (h : Sep w0 w L) (R : Rec α) (E : TypeId) (xs : List α) (hl : xs.length ≤ maxLen) :
    Sep w0 (w.alloc (.cells (R.flat xs).toArray E)) (recT R E (.slice (some ⟨w.heap.size, 0, none⟩) xs.length xs.length) xs :: L) := by
  refine h.consNew (S := Blk (.slice (some ⟨w.heap.size, 0, none⟩) xs.length xs.length)) (Fr.alloc _ _) ⟨rfl, ?_⟩ (fun j hj => ?_)
  · refine ⟨R.flat_length xs, .inr ⟨w.heap.size, xs.length, _, rfl, Nat.zero_le _, heap_alloc_new w _, Nat.le_refl _, hl, by simp [R.flat_length], ?_⟩⟩
    rw [List.take_of_length_le] <;> simp [R.flat_length]
  · simp [Blk, Value.ownBlock] at hj; omega
theorem Sep.appRecs (h : Sep w0 w L) (i : Nat) (hi : L[i]? = some (recT R E v xs)) {ys : List α} {n : Nat} (hn : n = xs.length + ys.length)
    (hA : Appended w w' E R.m v v' n (R.flat xs ++ R.flat ys)) : Sep w0 w' (L.set i (recT R E v' (xs ++ ys))) :=
  h.turn i hi fun S hS => ⟨Blk v', ⟨rfl, by unfold ROwn; rw [R.flat_append, List.length_append, ← hn]; exact hA.own⟩, by rw [hS.1]; exact hA.fr, by rw [hS.1]; exact hA.block⟩
end

section
variable {P : Program} {w0 w : World} {L : List Thing} {α : Type}
/-- 's = append(s, x)' of records: ONE MORE; x lies in block B. -/
theorem wpList_appRecB {ops : Array Oper} {rest : List Oper} {o : Oper} {a : Act} {Q : Exit → Act → World → Prop} (R : Rec α) (hgd : o.guard = none) (s x : Operand) (t : TypeId)
    (ho : o.op = .call { callee := .builtin .append, args := #[s, x], argTypes := #[t, t] })
    (e : TypeId) (i : TypeInfo) (z : Value) (bytes : Nat) (ht : P.underlying t = some (.slice e)) (hi : P.info? e = some i) (hz : i.zero = some z)
    (hsize : i.size = R.m) (hby : i.bytes = bytes) (hzs : z.cells.size = R.m)
    (v : Value) (xs : List α) (q : α) (hsep : Sep w0 w L) (j : Nat) (hj : L[j]? = some (recT R e v xs)) (B : Nat) (cs : Array Value) (hcs : cs = (R.cells q).toArray) (hB : w.heap[B]? = some (.cells cs e (0, 0)))
    (hs : a.eval s = v) (hx : a.eval x = .slice (some ⟨B, 0, none⟩) 1 1)
    (h63 : xs.length + 1 ≤ maxLen) (hbytes : (xs.length + 1) * bytes ≤ 140737488355328)
    (h : ∀ v' w', Sep w0 w' (L.set j (recT R e v' (xs ++ [q]))) → Hid (∃ g cap, v' = .slice (some ⟨g, 0, none⟩) (xs.length + 1) cap) → wpList P ops Q rest (a.put o.dst v') w') :
    wpList P ops Q (o :: rest) a w := by
  subst hcs
  have hown := hsep.recs j hj
  unfold ROwn at hown
  refine wpList_append1 hgd s x t ho e i z R.m bytes ht hi hz hsize hby hzs R.pos v xs.length _ hs hown B _ _ _ hx hB (by simp [R.len]) (by simpa using R.one q) h63 hbytes ?_
  intro v' w' hA
  refine h v' w' (hsep.appRecs j hj (ys := [q]) (n := xs.length + 1) rfl ?_) (hA.shape (by omega))
  simpa [Rec.flat] using hA
theorem wpList_appRec {ops : Array Oper} {rest : List Oper} {o : Oper} {a : Act} {Q : Exit → Act → World → Prop} (R : Rec α) (hgd : o.guard = none) (s x : Operand) (t : TypeId)
    (ho : o.op = .call { callee := .builtin .append, args := #[s, x], argTypes := #[t, t] })
    (e : TypeId) (i : TypeInfo) (z : Value) (bytes : Nat) (ht : P.underlying t = some (.slice e)) (hi : P.info? e = some i) (hz : i.zero = some z)
    (hsize : i.size = R.m) (hby : i.bytes = bytes) (hzs : z.cells.size = R.m)
    (v : Value) (xs : List α) (q : α) (hsep : Sep w0 w L) (j : Nat) (hj : L[j]? = some (recT R e v xs)) (cs : Array Value) (hcs : cs = (R.cells q).toArray)
    (hs : a.eval s = v) (hx : a.eval x = .slice (some ⟨w.heap.size, 0, none⟩) 1 1)
    (h63 : xs.length + 1 ≤ maxLen) (hbytes : (xs.length + 1) * bytes ≤ 140737488355328)
    (h : ∀ v' w', Sep w0 w' (L.set j (recT R e v' (xs ++ [q]))) → Hid (∃ g cap, v' = .slice (some ⟨g, 0, none⟩) (xs.length + 1) cap) → wpList P ops Q rest (a.put o.dst v') w') :
    wpList P ops Q (o :: rest) a (w.alloc (.cells cs e)) :=
  wpList_appRecB R hgd s x t ho e i z bytes ht hi hz hsize hby hzs v xs q (hsep.alloc _) j hj w.heap.size cs hcs (heap_alloc_new w _) hs hx h63 hbytes h
/-- 's = append(s, xs...)' of records. -/
theorem wpList_appRdG {ops : Array Oper} {rest : List Oper} {o : Oper} {a : Act} {Q : Exit → Act → World → Prop} (R : Rec α) (hgd : o.guard = none) (s x : Operand) (t : TypeId)
    (ho : o.op = .call { callee := .builtin .append, args := #[s, x], argTypes := #[t, t] })
    (e : TypeId) (i : TypeInfo) (z : Value) (bytes : Nat) (ht : P.underlying t = some (.slice e)) (hi : P.info? e = some i) (hz : i.zero = some z)
    (hsize : i.size = R.m) (hby : i.bytes = bytes) (hzs : z.cells.size = R.m)
    (v : Value) (xs : List α) (y : Value) (ys : List α) (hsep : Sep w0 w L) (j : Nat) (hj : L[j]? = some (recT R e v xs)) (hr : RdG R w y ys)
    (hs : a.eval s = v) (hx : a.eval x = y)
    (h63 : xs.length + ys.length ≤ maxLen) (hbytes : (xs.length + ys.length) * bytes ≤ 140737488355328)
    (h : ∀ v' w', Sep w0 w' (L.set j (recT R e v' (xs ++ ys))) → wpList P ops Q rest (a.put o.dst v') w') :
    wpList P ops Q (o :: rest) a w := by
  refine wpList_plain hgd fun K hK => ?_
  have hown := hsep.recs j hj
  unfold ROwn at hown
  obtain ⟨ad, cap, rfl, hlm, hnc, hc⟩ := hr
  match ad, hnc, hc with
  | none, hnc, hc =>
    have hc0 := hnc rfl
    have hy0 : ys = [] := by
      rcases ys with _ | ⟨q, ys⟩
      · rfl
      · obtain ⟨b, off, e, _⟩ := hc (by simp); cases e
    subst hy0; subst hc0
    have hr := run_append_none (P := P) t o.type e i R.m ht hi v xs.length _ hown
    unfold Oper.wp execOp
    simp only [ho, resolve, invoke, builtin, Sem.run_bind, Sem.run_pure, Result.andThen_ok, List.map_toArray, List.map_cons, List.map_nil, hs, hx, List.length_nil, hr]
    have h2 := h v w (by rw [List.append_nil]; have : L.set j (recT R e v xs) = L := by obtain ⟨hlt, he⟩ := List.getElem?_eq_some_iff.1 hj; rw [← he]; exact List.set_getElem_self _
                         rw [this]; exact hsep)
    exact hK _ _ h2
  | some ad, hnc, hc =>
    have hnews : ∀ j u, (R.flat ys)[j]? = some u → w.cell? (ad.add j) = some u := by
      intro j u hu
      have hj : j < ys.length * R.m := by have := (List.getElem?_eq_some_iff.1 hu).1; rwa [R.flat_length] at this
      have hp := R.pos
      have hy0 : 0 < ys.length := by
        rcases Nat.eq_zero_or_pos ys.length with h | h
        · rw [h] at hj; simp at hj
        · exact h
      obtain ⟨b, off, e, hb, hcell⟩ := hc hy0
      injection e with e
      subst e
      have hadd : (⟨b, off, none⟩ : Addr).add j = ⟨b, off + j, none⟩ := by unfold Addr.add; split <;> simp_all
      have hq : j / R.m < ys.length := (Nat.div_lt_iff_lt_mul hp).2 hj
      have hr : j % R.m < R.m := Nat.mod_lt _ hp
      have hjj : j / R.m * R.m + j % R.m = j := by rw [Nat.mul_comm]; exact Nat.div_add_mod j R.m
      have h1 := hcell (j / R.m) hq (j % R.m) hr
      rw [Nat.add_assoc, hjj] at h1
      have h2 := R.flat_get ys (j / R.m) hq (j % R.m) hr
      rw [hjj, hu] at h2
      rw [hadd, h1, ← h2]
    obtain ⟨v', w', hr, hA⟩ := run_append (P := P) (w := w) t o.type e i z R.m bytes ht hi hz hsize hby hzs R.pos v xs.length _ hown ad ys.length cap (R.flat ys) (R.flat_length ys) hnews
      (R.flat_one ys) h63 hbytes
    unfold Oper.wp execOp
    simp only [ho, resolve, invoke, builtin, Sem.run_bind, Sem.run_pure, Result.andThen_ok, List.map_toArray, List.map_cons, List.map_nil, hs, hx, hr]
    exact hK _ _ (h v' w' (hsep.appRecs j hj rfl hA))
end
end Go.Mem
namespace Go.Mem
open Go Go.RowKit

/-- What a round leaves of the blocks below N: all but those of S. -/
def KeepX (N : Nat) (S : Nat → Prop) (W W' : World) : Prop := W.heap.size ≤ W'.heap.size ∧ ∀ b, b < N → ¬ S b → W'.heap[b]? = W.heap[b]?
theorem KeepX.refl (N : Nat) (S : Nat → Prop) (W : World) : KeepX N S W W := ⟨Nat.le_refl _, fun _ _ _ => rfl⟩
theorem KeepX.trans {N : Nat} {S : Nat → Prop} {A B C : World} (h : KeepX N S A B) (k : KeepX N S B C) : KeepX N S A C := ⟨Nat.le_trans h.1 k.1, fun b hb hs => (k.2 b hb hs).trans (h.2 b hb hs)⟩
theorem KeepX.cell {N : Nat} {S : Nat → Prop} {W W' : World} (h : KeepX N S W W') {b o : Nat} (hb : b < N) (hs : ¬ S b) : W'.cell? ⟨b, o, none⟩ = W.cell? ⟨b, o, none⟩ := World.cell?_of_block (w := W) (h.2 b hb hs)
theorem KeepX.alloc {N : Nat} {S : Nat → Prop} {W : World} (h : N ≤ W.heap.size) (o : Obj) : KeepX N S W (W.alloc o) := ⟨by simp, fun b hb _ => Below.heap_alloc W o b (by omega)⟩
theorem KeepX.drew {N : Nat} {S : Nat → Prop} {W W' : World} (h : KeepX N S W W') : KeepX N S W W'.drew := ⟨h.1, h.2⟩
theorem KeepX.setCell {N : Nat} {S : Nat → Prop} (W : World) (a : Addr) (u : Value) (h : S a.block) : KeepX N S W (W.setCell a u) := ⟨by simp [World.setCell], fun i _ hn => Below.heap_setCell W a u i (fun e => hn (e ▸ h))⟩
theorem KeepX.below {N : Nat} {S : Nat → Prop} {W W' : World} (h : N ≤ W.heap.size) (hb : Below W.heap.size W W') : KeepX N S W W' := ⟨hb.size, fun b hb' _ => hb.block b (by omega)⟩
theorem KeepX.fr {N : Nat} {S T : Nat → Prop} {W W' : World} (h : Fr T W W') (hN : N ≤ W.heap.size) (hT : ∀ k, T k → S k) : KeepX N S W W' := ⟨h.size, fun b hb hs => h.block b (by omega) (fun t => hs (hT b t))⟩
theorem keepX_b {N : Nat} {S : Nat → Prop} {w : World} (hn : N ≤ w.heap.size) (W : World) (l : Nat) (o o' : Obj) (hl : w.heap.size ≤ l) (_ : W.heap[l]? = some o) (_ : o.isCells = false) (_ : o.isWalk = false) : KeepX N S W (W.putObj l o') :=
  ⟨(grownBy_putObj' W l o').size, fun b hb _ => (grownBy_putObj' W l o').block b (by have := (Array.getElem?_eq_some_iff.1 (by assumption : W.heap[l]? = some o)).1; omega) (by intro e; cases e; omega)⟩

/-- Its blocks are blocks of cells. -/
def Thing.Cells (A : Thing) : Prop := ∀ w S, A.is w S → ∀ k, S k → ∃ o : Obj, w.heap[k]? = some o ∧ o.isCells = true
theorem cellsT_cells (b : Nat) (cs : Array Value) (E : TypeId) : (cellsT b cs E).Cells := by rintro w S ⟨rfl, h⟩ k rfl; exact ⟨_, h, rfl⟩
theorem owns_cells {w : World} {E : TypeId} {size n : Nat} {v : Value} {xs : List Value} (h : w.ownsRow 0 E size v n xs) (k : Nat) (hk : v.ownBlock = some k) : ∃ o : Obj, w.heap[k]? = some o ∧ o.isCells = true := by
  rcases h.2 with ⟨rfl, _⟩ | ⟨g, cap, cur, rfl, hb, hg, _⟩
  · simp [Value.ownBlock] at hk
  · simp only [Value.ownBlock, Option.some.injEq] at hk; subst hk; exact ⟨_, hg, rfl⟩
theorem intsT_cells (k : IntKind) (E : TypeId) (v : Value) (zs : List Int) : (intsT k E v zs).Cells := by rintro w S ⟨rfl, h⟩ j hj; exact owns_cells h j hj
theorem recT_cells {α : Type} (R : Rec α) (E : TypeId) (v : Value) (xs : List α) : (recT R E v xs).Cells := by rintro w S ⟨rfl, h⟩ j hj; exact owns_cells h j hj

theorem Sep.turned {w0 w w' : World} {L : List Thing} {row : Option Nat} (h : Sep w0 w L) (hc : ∀ A ∈ L, A.Cells) (hg : w.grownBy w' row)
    (hr : ∀ r, row = some r → w0.heap.size ≤ r ∧ ∃ o : Obj, w.heap[r]? = some o ∧ o.isCells = false) : Sep w0 w' L := by
  obtain ⟨Ss, hl, ha, p⟩ := h
  have hf : Fr (fun k => row = some k) w w' := Fr.grown hg (fun k hk => hk)
  refine ⟨Ss, hl, fun j C T hC hT => C.stay (ha j C T hC hT) hf (fun k hk e => ?_), p.dis, fun i C hC b hb => ⟨(p.rng i C hC b hb).1, Nat.lt_of_lt_of_le (p.rng i C hC b hb).2 hf.size⟩, p.below.trans (hf.toBelow _ (fun b hb e => ?_) p.below.size)⟩
  · obtain ⟨_, o, ho, hn⟩ := hr k e
    obtain ⟨o', ho', hy⟩ := hc C (List.mem_of_getElem? hC) _ _ (ha j C T hC hT) k hk
    rw [ho] at ho'; cases ho'; rw [hn] at hy; cases hy
  · have := (hr b e).1; omega
theorem sep_ownFrom {β : Type} {B : Nat} {w0 : World} (L : β → List Thing) (hB : w0.heap.size ≤ B) (hc : ∀ s, ∀ A ∈ L s, A.Cells) : OwnFrom B (fun s W => Sep w0 W (L s)) :=
  fun s _ _ _ hs hg hr => hs.turned (hc s) hg (fun r e => ⟨Nat.le_trans hB (hr r e).1, (hr r e).2⟩)
theorem cellsRow_own {β : Type} (B : Nat) (t : TypeId) (f : β → Array Value) : Own (fun s W => W.heap[B]? = some (.cells (f s) t (0, 0))) := fun s X Y row hs hg hrow => by
  refine (hg.block B (Array.getElem?_eq_some_iff.1 hs).1 (fun e => ?_)).trans hs
  obtain ⟨o, ho, hc⟩ := hrow B e.symm
  rw [show X.heap[B]? = _ from hs] at ho; cases ho; cases hc
theorem cells_set {W : World} {b : Nat} {cs : Array Value} {E : TypeId} {o : Nat} {u : Value} {ds : Array Value} (h : W.heap[b]? = some (.cells cs E (0, 0))) (hd : ds = cs.setIfInBounds o u) :
    (W.setCell ⟨b, o, none⟩ u).heap[b]? = some (.cells ds E (0, 0)) := by
  subst hd
  have hb := (Array.getElem?_eq_some_iff.1 h).1
  rw [Array.getElem?_eq_getElem hb] at h
  simp [World.setCell, hb, Array.getElem_modify, Option.some.inj h]
theorem Sep.setCells {w0 w : World} {L : List Thing} {b : Nat} {cs : Array Value} {E : TypeId} (h : Sep w0 w L) (i : Nat) (hi : L[i]? = some (cellsT b cs E)) (o : Nat) (u : Value) (ds : Array Value) (hd : ds = cs.setIfInBounds o u) :
    Sep w0 (w.setCell ⟨b, o, none⟩ u) (L.set i (cellsT b ds E)) :=
  h.turn i hi fun S hS => ⟨_, ⟨rfl, cells_set hS.2 hd⟩, by rw [hS.1]; exact Fr.setCell _ _ _ rfl, fun j hj => .inl (by rw [hS.1]; exact hj)⟩

/-- 'make([]int, n)', inside a fence. -/
theorem wpListIn_makeInts {F : Fence} {m : Nat} {P : Program} {w0 w : World} {L : List Thing} {ops : Array Oper} {rest : List Oper} {o : Oper} {a : Act} {Q : Exit → Act → World → Prop} (hgd : o.guard = none) (x y : Operand) (t : TypeId)
    (ho : o.op = .makeSlice t x y) (e : TypeId) (i : TypeInfo) (k : IntKind) (bytes : Nat) (ht : P.underlying t = some (.slice e)) (hi : P.info? e = some i) (hz : i.zero = some (.int k 0))
    (hsize : i.size = 1) (hby : i.bytes = bytes) (n : Nat) (kl kc : IntKind) (hx : a.eval x = .int kl n) (hy : a.eval y = .int kc n) (hsep : Sep w0 w L)
    (h63 : n ≤ maxLen) (hbytes : bytes * n ≤ 281474976710656)
    (h : ∀ w' g, Sep w0 w' (intsT k e (.slice (some ⟨g, 0, none⟩) n n) (List.replicate n 0) :: L) → wpListIn F m P ops Q rest (a.put o.dst (.slice (some ⟨g, 0, none⟩) n n)) w') :
    wpListIn F m P ops Q (o :: rest) a w := by
  refine wpListIn_plain hgd fun K hK => ?_
  have hb : (i.bytes : Int) * (n : Int) ≤ 281474976710656 := by
    rw [hby]
    have : ((bytes * n : Nat) : Int) ≤ 281474976710656 := by omega
    rwa [Int.natCast_mul] at this
  have h63' := h63
  simp only [maxLen] at h63'
  have hr := run_make (P := P) w t e i (.int k 0) ht hi hz kl kc (n : Int) (n : Int) (by omega) (Int.le_refl _) hb (by omega)
  simp only [Int.toNat_natCast, hsize, madeCells_int] at hr
  have hs := hsep.litInts k e (List.replicate n 0) (by simpa using h63)
  simp only [List.length_replicate] at hs
  refine ⟨fun f hf => (by simp [Oper.about, ho] at hf), ?_⟩
  rw [Oper.semAt_eq _ _ _ (by intro c e; rw [ho] at e; cases e)]
  unfold execOp
  simp only [ho, hx, hy, Sem.run_bind, Sem.run_pure, Result.andThen_ok, hr]
  exact hK _ _ (h _ _ hs)
end Go.Mem
namespace Go.Mem
open Go Go.RowKit

def nthV : List Value → Nat → Value
  | [], _ => undef
  | v :: _, 0 => v
  | _ :: l, n + 1 => nthV l n

/-- A frame, some of whose slots are turned into f's. -/
def mask : List (Option Nat) → (Nat → Value) → List Value → List Value
  | some n :: m, f, _ :: l => f n :: mask m f l
  | none :: m, f, v :: l => v :: mask m f l
  | [], _, l => l
  | _ :: _, _, [] => []

/-- What a round hands on. -/
def Round (m : List (Option Nat)) (frame : List Value) (J : Nat → (Nat → Value) → World → Prop) (n : Nat) (l : List Value) (w : World) : Prop :=
  ∃ n', n' < n ∧ mask m (nthV l) frame = l ∧ J n' (nthV l) w
theorem Round.intro {m : List (Option Nat)} {frame : List Value} {J : Nat → (Nat → Value) → World → Prop} {n : Nat} {l : List Value} {w : World} (n' : Nat) (h1 : n' < n) (h2 : mask m (nthV l) frame = l) (h3 : J n' (nthV l) w) : Round m frame J n l w := ⟨n', h1, h2, h3⟩

theorem wp_loopM {P : Program} {Q : Exit → Act → World → Prop} {c : Code} {d : List Deferred} {w : World} {frame : List Value} (m : List (Option Nat)) (I : Nat → (Nat → Value) → World → Prop) (n0 : Nat)
    (hm : mask m (nthV frame) frame = frame) (h0 : I n0 (nthV frame) w)
    (round : ∀ n f wr l, mask m f frame = l → I n f wr → ∀ (J : Nat → (Nat → Value) → World → Prop) (K : Act → World → Prop), (∀ k f w', I k f w' → J k f w') →
      (∀ l' w', Round m frame J n l' w' → K ⟨l'.toArray, d⟩ w') → c.wp P (Exit.then K Q) ⟨l.toArray, d⟩ wr) : (Code.loop c).wp P Q ⟨frame.toArray, d⟩ w := by
  refine wp_loop_ghost (fun n a w => ∃ f, a = ⟨(mask m f frame).toArray, d⟩ ∧ I n f w) n0 ⟨nthV frame, by rw [hm], h0⟩ fun n a w ⟨f, ha, hI⟩ => ?_
  subst ha
  exact round n f w _ rfl hI I _ (fun _ _ _ h => h) (fun l' w' ⟨n', hlt, hm, hI'⟩ => ⟨n', hlt, nthV l', by rw [hm], hI'⟩)

/-- Where ways meet again. -/
def Meet (m : List (Option Nat)) (frame : List Value) (J : (Nat → Value) → World → Prop) (l : List Value) (w : World) : Prop := mask m (nthV l) frame = l ∧ J (nthV l) w
theorem Meet.intro {m : List (Option Nat)} {frame : List Value} {J : (Nat → Value) → World → Prop} {l : List Value} {w : World} (h2 : mask m (nthV l) frame = l) (h3 : J (nthV l) w) : Meet m frame J l w := ⟨h2, h3⟩
theorem wp_cutM {P : Program} {Q' : Exit → Act → World → Prop} {s : Code} {K : Act → World → Prop} {d : List Deferred} {w : World} {frame : List Value} (m : List (Option Nat)) (I : (Nat → Value) → World → Prop)
    (first : ∀ (J : (Nat → Value) → World → Prop) (K' : Act → World → Prop), (∀ f w', I f w' → J f w') → (∀ l' w', Meet m frame J l' w' → K' ⟨l'.toArray, d⟩ w') → s.wp P (Exit.then K' Q') ⟨frame.toArray, d⟩ w)
    (rest : ∀ f wr l, mask m f frame = l → I f wr → K ⟨l.toArray, d⟩ wr) : s.wp P (Exit.then K Q') ⟨frame.toArray, d⟩ w := by
  refine wp_mono (first I (fun a' w' => ∃ f, a' = ⟨(mask m f frame).toArray, d⟩ ∧ I f w') (fun _ _ h => h) (fun l' w' ⟨h2, h3⟩ => ⟨nthV l', by rw [h2], h3⟩)) ?_
  intro e a' w' hq
  cases e with
  | normal => obtain ⟨f, rfl, hf⟩ := hq; exact rest f w' _ rfl hf
  | exit id => exact hq
  | goto l => exact hq
  | ret => exact hq
  | panic ch => exact hq
  | outgrown => exact hq
attribute [irreducible] Round Meet
end Go.Mem
namespace Go.Mem
open Go Go.RowKit
/-- What an append leaves, beside the things. -/
structure AppOk (v v' : Value) (w w' : World) : Prop where
  fr : Fr (fun b => v.ownBlock = some b) w w'
  block : ∀ g, v'.ownBlock = some g → v.ownBlock = some g ∨ w.heap.size ≤ g
  keep : KeepsOthers w w'
theorem keepsOthers_fr {S : Nat → Prop} {w w' : World} (h : Fr S w w') (hc : ∀ k, S k → ∃ o : Obj, w.heap[k]? = some o ∧ o.isCells = true) : KeepsOthers w w' :=
  ⟨h.size, fun i o hi ho => (h.block i (Array.getElem?_eq_some_iff.1 hi).1 (fun hs => by obtain ⟨o', h1, h2⟩ := hc i hs; rw [hi] at h1; cases h1; rw [ho] at h2; cases h2)).trans hi⟩
theorem AppOk.of {w w' : World} {e : TypeId} {size n m : Nat} {v v' : Value} {xs ys : List Value} (hA : Appended w w' e size v v' n xs) (ho : w.ownsRow 0 e size v m ys) : AppOk v v' w w' :=
  ⟨hA.fr, hA.block, keepsOthers_fr hA.fr (fun k hk => owns_cells ho k hk)⟩
/-- What a round leaves that appends to a row that lies above. -/
theorem KeepX.app {N : Nat} {S : Nat → Prop} {v v' : Value} {w w' : World} (h : AppOk v v' w w') (hN : N ≤ w.heap.size) (hv : ∀ k, v.ownBlock = some k → N ≤ k) : KeepX N S w w' :=
  ⟨h.fr.size, fun b hb _ => h.fr.block b (by omega) (fun e => by have := hv b e; omega)⟩
theorem ownFrom_ex {β γ : Type} {B : Nat} {I : β → γ → World → Prop} (h : ∀ c, OwnFrom B (fun s W => I s c W)) : OwnFrom B (fun s W => ∃ c, I s c W) := fun s W W' row hs hg hr => let ⟨c, hc⟩ := hs; ⟨c, h c s W W' row hc hg hr⟩
section
variable {F : Fence} {m : Nat} {P : Program} {w0 w : World} {L : List Thing} {α : Type}
theorem wpListIn_append1 {ops : Array Oper} {rest : List Oper} {o : Oper} {a : Act} {Q : Exit → Act → World → Prop} (hgd : o.guard = none) (s x : Operand) (t : TypeId)
    (ho : o.op = .call { callee := .builtin .append, args := #[s, x], argTypes := #[t, t] })
    (e : TypeId) (i : TypeInfo) (z : Value) (size bytes : Nat) (ht : P.underlying t = some (.slice e)) (hi : P.info? e = some i) (hz : i.zero = some z)
    (hsize : i.size = size) (hby : i.bytes = bytes) (hzs : z.cells.size = size) (hsz : 0 < size)
    (v : Value) (n : Nat) (xs : List Value) (hs : a.eval s = v) (hown : w.ownsRow 0 e size v n xs)
    (B : Nat) (cs : Array Value) (E' : TypeId) (fr : Nat × Nat) (hx : a.eval x = .slice (some ⟨B, 0, none⟩) 1 1) (hB : w.heap[B]? = some (.cells cs E' fr)) (hcs : cs.size = size) (h1 : ∀ u ∈ cs.toList, u.oneCell' = true)
    (h63 : n + 1 ≤ maxLen) (hbytes : (n + 1) * bytes ≤ 140737488355328)
    (h : ∀ v' w', Appended w w' e size v v' (n + 1) (xs ++ cs.toList) → wpListIn F m P ops Q rest (a.put o.dst v') w') : wpListIn F m P ops Q (o :: rest) a w := by
  refine wpListIn_plain hgd fun K hK => ?_
  obtain ⟨v', w', hr, hA⟩ := run_append (P := P) (w := w) t o.type e i z size bytes ht hi hz hsize hby hzs hsz v n xs hown ⟨B, 0, none⟩ 1 1 cs.toList (by simpa using hcs)
    (fun j u hj => by
      have hadd : (⟨B, 0, none⟩ : Addr).add j = ⟨B, j, none⟩ := by unfold Addr.add; split <;> simp_all
      rw [hadd, cell_of hB]
      simpa using hj) h1 h63 hbytes
  unfold Oper.wpIn
  refine ⟨?_, ?_⟩
  · simp [Oper.about, ho, resolve, Target.leads, Sem.run_pure]
  · rw [Oper.semAt_plain F _ _ (by rw [ho]; intro c hc'; cases hc')]
    unfold execOp
    simp only [ho, resolve, invoke, builtin, Sem.run_bind, Sem.run_pure, Result.andThen_ok, List.map_toArray, List.map_cons, List.map_nil, hs, hx, hr]
    exact hK _ _ (h v' w' hA)
theorem wpListIn_appRecB {ops : Array Oper} {rest : List Oper} {o : Oper} {a : Act} {Q : Exit → Act → World → Prop} (R : Rec α) (hgd : o.guard = none) (s x : Operand) (t : TypeId)
    (ho : o.op = .call { callee := .builtin .append, args := #[s, x], argTypes := #[t, t] })
    (e : TypeId) (i : TypeInfo) (z : Value) (bytes : Nat) (ht : P.underlying t = some (.slice e)) (hi : P.info? e = some i) (hz : i.zero = some z)
    (hsize : i.size = R.m) (hby : i.bytes = bytes) (hzs : z.cells.size = R.m)
    (v : Value) (xs : List α) (q : α) (hsep : Sep w0 w L) (j : Nat) (hj : L[j]? = some (recT R e v xs)) (B : Nat) (cs : Array Value) (hcs : cs = (R.cells q).toArray) (hB : w.heap[B]? = some (.cells cs e (0, 0)))
    (hs : a.eval s = v) (hx : a.eval x = .slice (some ⟨B, 0, none⟩) 1 1)
    (h63 : xs.length + 1 ≤ maxLen) (hbytes : (xs.length + 1) * bytes ≤ 140737488355328)
    (h : ∀ v' w', Sep w0 w' (L.set j (recT R e v' (xs ++ [q]))) → Hid (∃ g cap, v' = .slice (some ⟨g, 0, none⟩) (xs.length + 1) cap) → Hid (AppOk v v' w w') → wpListIn F m P ops Q rest (a.put o.dst v') w') :
    wpListIn F m P ops Q (o :: rest) a w := by
  subst hcs
  have hown := hsep.recs j hj
  unfold ROwn at hown
  refine wpListIn_append1 hgd s x t ho e i z R.m bytes ht hi hz hsize hby hzs R.pos v xs.length _ hs hown B _ _ _ hx hB (by simp [R.len]) (by simpa using R.one q) h63 hbytes ?_
  intro v' w' hA
  refine h v' w' (hsep.appRecs j hj (ys := [q]) (n := xs.length + 1) rfl ?_) (hA.shape (by omega)) (AppOk.of hA hown)
  simpa [Rec.flat] using hA
theorem wpListIn_appRec {ops : Array Oper} {rest : List Oper} {o : Oper} {a : Act} {Q : Exit → Act → World → Prop} (R : Rec α) (hgd : o.guard = none) (s x : Operand) (t : TypeId)
    (ho : o.op = .call { callee := .builtin .append, args := #[s, x], argTypes := #[t, t] })
    (e : TypeId) (i : TypeInfo) (z : Value) (bytes : Nat) (ht : P.underlying t = some (.slice e)) (hi : P.info? e = some i) (hz : i.zero = some z)
    (hsize : i.size = R.m) (hby : i.bytes = bytes) (hzs : z.cells.size = R.m)
    (v : Value) (xs : List α) (q : α) (hsep : Sep w0 w L) (j : Nat) (hj : L[j]? = some (recT R e v xs)) (cs : Array Value) (hcs : cs = (R.cells q).toArray)
    (hs : a.eval s = v) (hx : a.eval x = .slice (some ⟨w.heap.size, 0, none⟩) 1 1)
    (h63 : xs.length + 1 ≤ maxLen) (hbytes : (xs.length + 1) * bytes ≤ 140737488355328)
    (h : ∀ v' w', Sep w0 w' (L.set j (recT R e v' (xs ++ [q]))) → Hid (∃ g cap, v' = .slice (some ⟨g, 0, none⟩) (xs.length + 1) cap) → Hid (AppOk v v' (w.alloc (.cells cs e)) w') → wpListIn F m P ops Q rest (a.put o.dst v') w') :
    wpListIn F m P ops Q (o :: rest) a (w.alloc (.cells cs e)) :=
  wpListIn_appRecB R hgd s x t ho e i z bytes ht hi hz hsize hby hzs v xs q (hsep.alloc _) j hj w.heap.size cs hcs (heap_alloc_new w _) hs hx h63 hbytes h
theorem wpListIn_appIntB {ops : Array Oper} {rest : List Oper} {o : Oper} {a : Act} {Q : Exit → Act → World → Prop} (hgd : o.guard = none) (s x : Operand) (t : TypeId)
    (ho : o.op = .call { callee := .builtin .append, args := #[s, x], argTypes := #[t, t] })
    (e : TypeId) (i : TypeInfo) (z : Value) (bytes : Nat) (ht : P.underlying t = some (.slice e)) (hi : P.info? e = some i) (hz : i.zero = some z)
    (hsize : i.size = 1) (hby : i.bytes = bytes) (hzs : z.cells.size = 1)
    (v : Value) (zs : List Int) (k : IntKind) (q : Int) (hsep : Sep w0 w L) (j : Nat) (hj : L[j]? = some (intsT k e v zs)) (B : Nat) (hB : w.heap[B]? = some (.cells #[.int k q] e (0, 0)))
    (hs : a.eval s = v) (hx : a.eval x = .slice (some ⟨B, 0, none⟩) 1 1)
    (h63 : zs.length + 1 ≤ maxLen) (hbytes : (zs.length + 1) * bytes ≤ 140737488355328)
    (h : ∀ v' w', Sep w0 w' (L.set j (intsT k e v' (zs ++ [q]))) → Hid (∃ g cap, v' = .slice (some ⟨g, 0, none⟩) (zs.length + 1) cap) → wpListIn F m P ops Q rest (a.put o.dst v') w') :
    wpListIn F m P ops Q (o :: rest) a w := by
  have hown := hsep.ints j hj
  unfold IOwn at hown
  refine wpListIn_append1 hgd s x t ho e i z 1 bytes ht hi hz hsize hby hzs (by omega) v zs.length _ hs hown B _ _ _ hx hB rfl (by simp [Value.oneCell']) h63 hbytes ?_
  intro v' w' hA
  refine h v' w' (hsep.appInts j hj rfl hA) (hA.shape (by omega))
theorem wpListIn_appInt {ops : Array Oper} {rest : List Oper} {o : Oper} {a : Act} {Q : Exit → Act → World → Prop} (hgd : o.guard = none) (s x : Operand) (t : TypeId)
    (ho : o.op = .call { callee := .builtin .append, args := #[s, x], argTypes := #[t, t] })
    (e : TypeId) (i : TypeInfo) (z : Value) (bytes : Nat) (ht : P.underlying t = some (.slice e)) (hi : P.info? e = some i) (hz : i.zero = some z)
    (hsize : i.size = 1) (hby : i.bytes = bytes) (hzs : z.cells.size = 1)
    (v : Value) (zs : List Int) (k : IntKind) (q : Int) (hsep : Sep w0 w L) (j : Nat) (hj : L[j]? = some (intsT k e v zs)) (hs : a.eval s = v) (hx : a.eval x = .slice (some ⟨w.heap.size, 0, none⟩) 1 1)
    (h63 : zs.length + 1 ≤ maxLen) (hbytes : (zs.length + 1) * bytes ≤ 140737488355328)
    (h : ∀ v' w', Sep w0 w' (L.set j (intsT k e v' (zs ++ [q]))) → Hid (∃ g cap, v' = .slice (some ⟨g, 0, none⟩) (zs.length + 1) cap) → wpListIn F m P ops Q rest (a.put o.dst v') w') :
    wpListIn F m P ops Q (o :: rest) a (w.alloc (.cells #[.int k q] e)) :=
  wpListIn_appIntB hgd s x t ho e i z bytes ht hi hz hsize hby hzs v zs k q (hsep.alloc _) j hj w.heap.size (heap_alloc_new w _) hs hx h63 hbytes h
/-- The frame at a range over a function, by a name. -/
theorem nameRF {g : Operand} {ps : Array Tmp} {assign body : Code} {Q : Exit → Act → World → Prop} {a : Act} (h : ∀ b, b = a → (Code.rangeFunc g ps assign body).wpIn F m P Q b w) : (Code.rangeFunc g ps assign body).wpIn F m P Q a w := h a rfl
end
end Go.Mem
namespace Go.Mem
open Go Go.RowKit
/-- What a round leaves: the blocks below N but those of S, and all blocks of type E. -/
def KeepT (E : TypeId) (N : Nat) (S : Nat → Prop) (W W' : World) : Prop := KeepX N S W W' ∧ ∀ (b : Nat) (cs : Array Value) (fr : Nat × Nat), W.heap[b]? = some (Obj.cells cs E fr) → W'.heap[b]? = some (Obj.cells cs E fr)
theorem KeepT.refl (E : TypeId) (N : Nat) (S : Nat → Prop) (W : World) : KeepT E N S W W := ⟨KeepX.refl _ _ _, fun _ _ _ h => h⟩
theorem KeepT.trans {E : TypeId} {N : Nat} {S : Nat → Prop} {A B C : World} (h : KeepT E N S A B) (k : KeepT E N S B C) : KeepT E N S A C := ⟨h.1.trans k.1, fun b cs fr q => k.2 b cs fr (h.2 b cs fr q)⟩
theorem KeepT.alloc {E : TypeId} {N : Nat} {S : Nat → Prop} {W : World} (h : N ≤ W.heap.size) (o : Obj) : KeepT E N S W (W.alloc o) :=
  ⟨KeepX.alloc h o, fun b cs fr q => (Below.heap_alloc W o b (Array.getElem?_eq_some_iff.1 q).1).trans q⟩
theorem KeepT.drew {E : TypeId} {N : Nat} {S : Nat → Prop} {W W' : World} (h : KeepT E N S W W') : KeepT E N S W W'.drew := ⟨h.1.drew, h.2⟩
theorem KeepT.drewL {E : TypeId} {N : Nat} {S : Nat → Prop} {W W' : World} (h : KeepT E N S W.drew W') : KeepT E N S W W' := ⟨⟨h.1.1, h.1.2⟩, h.2⟩
theorem KeepT.fr {E : TypeId} {N : Nat} {S T : Nat → Prop} {W W' : World} (h : Fr T W W') (hN : N ≤ W.heap.size) (hT : ∀ k, T k → k < N → S k) (hE : ∀ k, T k → ∀ cs fr, W.heap[k]? ≠ some (Obj.cells cs E fr)) : KeepT E N S W W' :=
  ⟨⟨h.size, fun b hb hs => h.block b (by omega) (fun t => hs (hT b t hb))⟩, fun b cs fr q => (h.block b (Array.getElem?_eq_some_iff.1 q).1 (fun t => hE b t cs fr q)).trans q⟩
theorem KeepT.setCell {E : TypeId} {N : Nat} {S : Nat → Prop} (W : World) (a : Addr) (u : Value) (h : S a.block) (hE : ∀ (cs : Array Value) (fr : Nat × Nat), W.heap[a.block]? ≠ some (Obj.cells cs E fr)) : KeepT E N S W (W.setCell a u) :=
  ⟨KeepX.setCell W a u h, fun b cs fr q => (Below.heap_setCell W a u b (fun e => hE cs fr (by rw [← e]; exact q))).trans q⟩
theorem keepT_b {E : TypeId} {N : Nat} {S : Nat → Prop} {w : World} (hn : N ≤ w.heap.size) (W : World) (l : Nat) (o o' : Obj) (hl : w.heap.size ≤ l) (h1 : W.heap[l]? = some o) (h2 : o.isCells = false) (h3 : o.isWalk = false) : KeepT E N S W (W.putObj l o') :=
  ⟨keepX_b hn W l o o' hl h1 h2 h3, fun b cs fr q => ((grownBy_putObj' W l o').block b (Array.getElem?_eq_some_iff.1 q).1 (by intro e; cases e; rw [h1] at q; cases q; cases h2)).trans q⟩
/-- A row's block is of the row's type. -/
theorem owns_type {w : World} {E E' : TypeId} {size n : Nat} {v : Value} {xs : List Value} (h : w.ownsRow 0 E size v n xs) (hne : E ≠ E') (k : Nat) (hk : v.ownBlock = some k) : ∀ (cs : Array Value) (fr : Nat × Nat), w.heap[k]? ≠ some (Obj.cells cs E' fr) := by
  rcases h.2 with ⟨rfl, _⟩ | ⟨g, cap, cur, rfl, hb, hg, _⟩
  · simp [Value.ownBlock] at hk
  · simp only [Value.ownBlock, Option.some.injEq] at hk
    subst hk
    intro cs fr q
    rw [hg] at q
    injection q with q
    injection q with _ q _
    exact hne q
theorem cells_type {w : World} {b : Nat} {cs : Array Value} {E E' : TypeId} (h : w.heap[b]? = some (.cells cs E (0, 0))) (hne : E ≠ E') : ∀ (ds : Array Value) (fr : Nat × Nat), w.heap[b]? ≠ some (Obj.cells ds E' fr) := fun ds fr q => by
  rw [h] at q
  injection q with q
  injection q with _ q _
  exact hne q
theorem KeepT.cell {E : TypeId} {N : Nat} {S : Nat → Prop} {W W' : World} (h : KeepT E N S W W') {b o : Nat} (hb : b < N) (hs : ¬ S b) : W'.cell? ⟨b, o, none⟩ = W.cell? ⟨b, o, none⟩ := h.1.cell hb hs
end Go.Mem
namespace Go.Mem
open Go Go.RowKit
/-- A thing is left out. -/
theorem Sep.omit {w0 w : World} {L : List Thing} (h : Sep w0 w L) (i : Nat) : Sep w0 w (L.eraseIdx i) := by
  obtain ⟨Ss, hl, ha, p⟩ := h
  have look : ∀ {β : Type _} (l : List β) (j : Nat) (x : β), (l.eraseIdx i)[j]? = some x → l[if j < i then j else j + 1]? = some x := by
    intro β l j x hx
    rw [List.getElem?_eraseIdx] at hx
    split at hx <;> rename_i hj
    · rw [if_pos hj]; exact hx
    · rw [if_neg hj]; exact hx
  refine ⟨Ss.eraseIdx i, by rw [List.length_eraseIdx, List.length_eraseIdx, hl], fun j C T hC hT => ha _ C T (look _ _ _ hC) (look _ _ _ hT), fun j k C D hC hD hne => p.dis _ _ C D (look _ _ _ hC) (look _ _ _ hD) (by split <;> split <;> omega), fun j C hC => p.rng _ C (look _ _ _ hC), p.below⟩
theorem Sep.drop1 {w0 w : World} {A B : Thing} {L : List Thing} (h : Sep w0 w (A :: B :: L)) : Sep w0 w (A :: L) := h.omit 1
end Go.Mem
namespace Go.Mem
open Go
theorem wraps_i64 (n : Int) (h₀ : 0 ≤ n) (h₁ : n < 2 ^ 63) : IntKind.i64.wrap n = n := by rw [IntKind.wrap_i64]; omega
theorem and1_i64 (a : Nat) (h : a < 9223372036854775808) : bits .and .i64 (a : Int) 1 = (a : Int) % 2 := bits_mask .i64 63 (by decide) wraps_i64 1 (by decide) (a : Int) (by omega) (by omega)
theorem xor_i64 (a b : Nat) (ha : a < 9223372036854775808) (hb : b < 9223372036854775808) : bits .xor .i64 (a : Int) (b : Int) = ((a ^^^ b : Nat) : Int) := by
  have ha' : a % 2 ^ 64 = a := Nat.mod_eq_of_lt (by omega)
  have hb' : b % 2 ^ 64 = b := Nat.mod_eq_of_lt (by omega)
  have hx : a ^^^ b < 2 ^ 63 := Nat.xor_lt_two_pow (by omega) (by omega)
  simp only [bits, BitVec.ofInt_natCast, BitVec.toNat_xor, BitVec.toNat_ofNat, show IntKind.i64.bits = 64 from rfl, ha', hb']
  exact wraps_i64 _ (Int.natCast_nonneg _) (by omega)
/-- The other one of two. -/
def flip (a : Nat) : Nat := if a % 2 = 0 then a + 1 else a - 1
theorem xor1 (a : Nat) : a ^^^ 1 = flip a := by
  unfold flip
  have h1 : (a ^^^ 1) % 2 = 1 ↔ ¬ (a % 2 = 1 ↔ 1 % 2 = 1) := Nat.xor_mod_two_eq_one
  have h2 : (a ^^^ 1) / 2 = a / 2 := by
    have := Nat.shiftRight_xor_distrib (a := a) (b := 1) (i := 1)
    simpa [Nat.shiftRight_eq_div_pow] using this
  split <;> omega
theorem xor1_i64 (a : Nat) (ha : a < 9223372036854775808) : bits .xor .i64 (a : Int) 1 = (flip a : Int) := by
  have := xor_i64 a 1 ha (by decide)
  rw [xor1] at this
  exact this
end Go.Mem
namespace Go.Mem
open Go Go.RowKit Go.ChangeShapes Go.WideShapes Go.Deep

/-- A list of integers of these kinds, each fitting its kind, as cells. -/
def Leaves (ks : List IntKind) (f : Nat → Int) (cs : List Value) : Prop :=
  cs.length = ks.length ∧ ∀ j k, ks[j]? = some k → cs[j]? = some (.int k (f j)) ∧ (Lit.int k (f j)).wf = true

/-- A slice of records: nil or empty, or each element's cells lie one behind the other. -/
def IsRec (ks : List IntKind) (w : World) (a : Option Addr) (len cap : Nat) (z : Nat → Nat → Int) : Prop :=
  (a = none ∧ len = 0 ∧ cap = 0) ∨
  ∃ x, a = some x ∧ len ≤ cap ∧ cap ≤ maxLen ∧ ∀ i, i < len → ∀ j k, ks[j]? = some k → w.cell? (x.add (i * ks.length + j)) = some (.int k (z i j)) ∧ (Lit.int k (z i j)).wf = true

theorem IsRec.get {ks : List IntKind} {w : World} {a : Option Addr} {len cap : Nat} {z : Nat → Nat → Int} (h : IsRec ks w a len cap z) (hk : 0 < ks.length) (i : Nat) (hi : i < len) :
    ∃ b off, a = some ⟨b, off, none⟩ ∧ b < w.heap.size ∧ ∀ i, i < len → ∀ j k, ks[j]? = some k → w.cell? ⟨b, off + (i * ks.length + j), none⟩ = some (.int k (z i j)) := by
  rcases h with ⟨_, rfl, _⟩ | ⟨x, rfl, hl, hm, hc⟩
  · omega
  · have h0 := (hc 0 (by omega) 0 ks[0] (by simp [hk])).1
    obtain ⟨b, off, spot⟩ := x
    have hspot : spot = none := by simpa [Addr.add] using World.cell?_spot h0
    subst hspot
    rw [Go.WideShapes.add_plain] at h0
    exact ⟨b, off, rfl, World.block_lt_of_cell? w _ h0, fun i hi j k hj => by rw [← Go.WideShapes.add_plain]; exact (hc i hi j k hj).1⟩
theorem IsRec.wf {ks : List IntKind} {w : World} {a : Option Addr} {len cap : Nat} {z : Nat → Nat → Int} (h : IsRec ks w a len cap z) (i : Nat) (hi : i < len) (j : Nat) (k : IntKind) (hj : ks[j]? = some k) : (Lit.int k (z i j)).wf = true := by
  rcases h with ⟨_, rfl, _⟩ | ⟨x, rfl, hl, hm, hc⟩
  · omega
  · exact (hc i hi j k hj).2

section
variable {H : Type} {enc : TypeId × Value → H} {P : Program} {w : World} {base : Nat} {spare : Nat → Bool} {held : Bool}
/-- A struct of integer fields, one cell each. -/
theorem leaves_struct {e : TypeId} {fs : Array Field} {ks : List IntKind} (he : P.underlying e = some (.struct fs)) (hone : oneCellFields P fs = true) (hC : P.cellsOf e = fs.size)
    (hk : fs.toList.map (fun f => P.underlying f.type) = ks.map fun k => some (TypeDesc.int k)) {n : Nat} {cs : List Value} {y : DataW H × List MemPlace} (h : DataW.trod enc P w base spare held n e cs = some y) :
    ∃ f : Nat → Int, Leaves ks f cs := by
  obtain ⟨xs, n', _, _, hlen, _, hf⟩ := DataW.trod_struct he h
  have hsz : fs.size = ks.length := by have := congrArg List.length hk; simpa using this
  have key : ∀ (j : Nat) (k : IntKind), ks[j]? = some k → ∃ q : Int, cs[j]? = some (Value.int k q) ∧ (Lit.int k q).wf = true := by
    intro j k hj
    have hjl : j < ks.length := (List.getElem?_eq_some_iff.1 hj).1
    have hjf : fs[j]? = some fs[j] := by simp [hsz, hjl]
    obtain ⟨ho, hc1⟩ := hone_of hone j _ hjf
    have ht : P.underlying fs[j].type = some (.int k) := by
      have := congrArg (fun l => l[j]?) hk
      simp [hsz, hjl] at this
      rw [List.getElem?_eq_getElem hjl] at hj
      rw [this]; exact congrArg _ (congrArg _ (Option.some.inj hj))
    have h1 := hf j _ hjf
    rw [ho, hc1] at h1
    have hcl : j < cs.length := by omega
    have hone' : (cs.drop j).take 1 = [cs[j]] := by rw [List.drop_eq_getElem_cons hcl]; rfl
    rw [hone'] at h1
    have hxl : j < xs.length := by omega
    rw [List.getElem?_eq_getElem hxl] at h1
    obtain ⟨q, hq, _, hw⟩ := DataW.trod_int ht h1
    refine ⟨q, ?_, hw⟩
    rw [List.getElem?_eq_getElem hcl]
    simpa using hq
  refine ⟨fun j => match ks[j]? with | some k => (match cs[j]? with | some (.int _ q) => q | _ => 0) | none => 0, by omega, fun j k hj => ?_⟩
  obtain ⟨q, h1, h2⟩ := key j k hj
  simp only [hj, h1]
  exact ⟨trivial, h2⟩

/-- An array of integers. -/
theorem leaves_array {e t : TypeId} {m : Nat} {k : IntKind} (he : P.underlying e = some (.array m t)) (hk : P.underlying t = some (.int k)) (h1 : P.cellsOf t = 1) (hC : P.cellsOf e = m)
    {n : Nat} {cs : List Value} {y : DataW H × List MemPlace} (h : DataW.trod enc P w base spare held n e cs = some y) : ∃ f : Nat → Int, Leaves (List.replicate m k) f cs := by
  obtain ⟨xs, n', _, _, hlen, hxl, hf⟩ := DataW.trod_array he h
  have key : ∀ j, j < m → ∃ q : Int, cs[j]? = some (Value.int k q) ∧ (Lit.int k q).wf = true := by
    intro j hj
    have h2 := hf j hj
    rw [h1, Nat.mul_one] at h2
    have hcl : j < cs.length := by omega
    have hone' : (cs.drop j).take 1 = [cs[j]] := by rw [List.drop_eq_getElem_cons hcl]; rfl
    rw [hone'] at h2
    have hxl' : j < xs.length := by omega
    rw [List.getElem?_eq_getElem hxl'] at h2
    obtain ⟨q, hq, _, hw⟩ := DataW.trod_int hk h2
    refine ⟨q, ?_, hw⟩
    rw [List.getElem?_eq_getElem hcl]
    simpa using hq
  refine ⟨fun j => match cs[j]? with | some (.int _ q) => q | _ => 0, by rw [List.length_replicate]; omega, fun j k' hj => ?_⟩
  have hjm : j < m := by have := (List.getElem?_eq_some_iff.1 hj).1; simpa using this
  have hkk : k' = k := by rw [List.getElem?_replicate, if_pos hjm] at hj; exact (Option.some.inj hj).symm
  subst hkk
  obtain ⟨q, h2, h3⟩ := key j hjm
  simp only [h2]
  exact ⟨trivial, h3⟩

/-- A slice of such records. -/
theorem open_recs {t e : TypeId} {ks : List IntKind} {fuel : Nat} {a : Option Addr} {len cap : Nat} {x : DataW H × List MemPlace} (ht : P.underlying t = some (.slice e)) (hC : P.cellsOf e = ks.length)
    (hl : ∀ n cs y, DataW.trod enc P w base spare held n e cs = some y → ∃ f : Nat → Int, Leaves ks f cs) (h : DataW.trod enc P w base spare held fuel t [.slice a len cap] = some x) :
    ∃ z, IsRec ks w a len cap z := by
  rcases Go.Deep.open_slice ht h with ⟨hcs, _⟩ | ⟨a', len', cap', m, n, D, Pl, hcs, _, hle, hm, hmm, _, hi⟩
  · simp at hcs
    obtain ⟨rfl, rfl, rfl⟩ := hcs
    exact ⟨fun _ _ => 0, .inl ⟨rfl, rfl, rfl⟩⟩
  · simp at hcs
    obtain ⟨rfl, rfl, rfl⟩ := hcs
    have hlm : len ≤ m := by rw [hmm]; split <;> omega
    have key : ∀ i, ∃ f : Nat → Int, i < len → ∀ j k, ks[j]? = some k → w.cell? (a'.add (i * ks.length + j)) = some (.int k (f j)) ∧ (Lit.int k (f j)).wf = true := by
      intro i
      by_cases hil : i < len
      · obtain ⟨cs', hc, htr⟩ := hi i (by omega)
        rw [hC] at hc
        obtain ⟨f, hfl, hf⟩ := hl _ _ _ htr
        obtain ⟨_, hcl, hat⟩ := World.cells?_some hc
        refine ⟨f, fun _ j k hj => ?_⟩
        obtain ⟨h1, h2⟩ := hf j k hj
        have hjl : j < ks.length := (List.getElem?_eq_some_iff.1 hj).1
        refine ⟨?_, h2⟩
        rw [← Go.Deep.add_add, hat j hjl, h1]
      · exact ⟨fun _ => 0, fun h => absurd h hil⟩
    refine ⟨fun i => Classical.choose (key i), .inr ⟨a', rfl, hle, hm, fun i hil => Classical.choose_spec (key i) hil⟩⟩
end
end Go.Mem
namespace Go.Mem
open Go Go.RowKit Go.ChangeShapes Go.WideShapes Go.Deep

theorem IsRec.rdG {α : Type} (R : Rec α) {ks : List IntKind} (mk : (Nat → Int) → α) (hm : R.m = ks.length) (hc : ∀ (f : Nat → Int) j k, ks[j]? = some k → (R.cells (mk f))[j]? = some (Value.int k (f j)))
    {w : World} {a : Option Addr} {len cap : Nat} {z : Nat → Nat → Int} (h : IsRec ks w a len cap z) :
    ∃ es : List α, len = es.length ∧ RdG R w (.slice a es.length cap) es ∧ ∀ (i : Nat) (hi : i < es.length) (q : Nat) (k : IntKind), ks[q]? = some k → ∃ n, (R.cells es[i])[q]? = some (Value.int k n) ∧ (Lit.int k n).wf = true := by
  have hpos := R.pos
  have hg := h.get (by omega)
  have hw := h.wf
  have hlen : ((List.range len).map fun i => mk (z i)).length = len := by simp
  refine ⟨(List.range len).map fun i => mk (z i), hlen.symm, ⟨a, cap, rfl, ?_, ?_, fun h0 => ?_⟩, fun i hi q k hq => ⟨z i q, by simp [hc _ _ _ hq], hw i (by rw [hlen] at hi; exact hi) q k hq⟩⟩
  · rw [hlen]
    rcases h with ⟨_, rfl, _⟩ | ⟨x, rfl, hl, hm, _⟩
    · simp
    · omega
  · rcases h with ⟨_, _, rfl⟩ | ⟨x, rfl, _⟩
    · exact fun _ => rfl
    · exact fun e => by cases e
  · rw [hlen] at h0
    obtain ⟨b, off, e, hb, hcell⟩ := hg 0 h0
    refine ⟨b, off, e, hb, fun i hi j hj => ?_⟩
    rw [hlen] at hi
    have hj' : j < ks.length := by omega
    have h2 := hcell i hi j ks[j] (by simp [hj'])
    rw [hm, Nat.add_assoc, h2]
    simp [hc _ j ks[j] (by simp [hj'])]

section
variable {H : Type} {enc : TypeId × Value → H} {P : Program} {w : World} {base : Nat} {spare : Nat → Bool} {held : Bool}
theorem slice_cell {t e : TypeId} {n : Nat} {c : Value} {y : DataW H × List MemPlace} (ht : P.underlying t = some (.slice e)) (h : DataW.trod enc P w base spare held n t [c] = some y) : ∃ a len cap, c = .slice a len cap := by
  rcases DataW.trod_slice ht h with ⟨hcs, _⟩ | ⟨a', len', cap', elems, rest, m, _, hcs, _⟩
  · simp at hcs; exact ⟨_, _, _, hcs⟩
  · simp at hcs; exact ⟨_, _, _, hcs⟩
theorem int_cell {t : TypeId} {k : IntKind} {n : Nat} {c : Value} {y : DataW H × List MemPlace} (ht : P.underlying t = some (.int k)) (h : DataW.trod enc P w base spare held n t [c] = some y) : ∃ x, c = .int k x ∧ (Lit.int k x).wf = true := by
  obtain ⟨q, hq, _, hw⟩ := DataW.trod_int ht h
  simp at hq
  exact ⟨q, hq, hw⟩
theorem open_row {t e : TypeId} {k : IntKind} {fuel : Nat} {a : Option Addr} {len cap : Nat} {x : DataW H × List MemPlace} (ht : P.underlying t = some (.slice e)) (he : P.underlying e = some (.int k)) (hc : P.cellsOf e = 1)
    (h : DataW.trod enc P w base (fun _ => true) held fuel t [.slice a len cap] = some x) : ∃ zs, Rd k w (.slice a len cap) zs ∧ ∀ x ∈ zs, (Lit.int k x).wf = true := by
  have hr : ∃ zs, IsRow k w a len cap zs := by
    rcases open_ints ht he hc h with ⟨hcs, _⟩ | ⟨x, l, c, zs, hcs, _, hl, hm, hz, _, hcell, hwz⟩
    · simp at hcs
      obtain ⟨rfl, rfl, rfl⟩ := hcs
      exact ⟨[], .inl ⟨rfl, rfl, rfl, rfl⟩⟩
    · simp at hcs
      obtain ⟨rfl, rfl, rfl⟩ := hcs
      exact ⟨zs, .inr ⟨_, rfl, hl, hm, by simpa using hz, hcell, hwz⟩⟩
  obtain ⟨zs, hz⟩ := hr
  exact ⟨zs.take len, hz.rd⟩
end
end Go.Mem
namespace Go.Mem
open Go Go.RowKit Go.ChangeShapes Go.WideShapes Go.Deep

section
variable {H : Type} {enc : TypeId × Value → H} {P : Program} {w : World} {base : Nat} {spare : Nat → Bool} {held : Bool}
/-- A slice of elements of any form: 'Ok' is what is known of each. -/
theorem open_elems {α : Type} [Inhabited α] (R : Rec α) (Ok : α → Prop) {t e : TypeId} {fuel : Nat} {a : Option Addr} {len cap : Nat} {x : DataW H × List MemPlace} (ht : P.underlying t = some (.slice e)) (hC : P.cellsOf e = R.m)
    (hl : ∀ n cs y, DataW.trod enc P w base spare held n e cs = some y → ∃ x : α, cs = R.cells x ∧ Ok x) (h : DataW.trod enc P w base spare held fuel t [.slice a len cap] = some x) :
    ∃ xs : List α, len = xs.length ∧ RdG R w (.slice a xs.length cap) xs ∧ ∀ x ∈ xs, Ok x := by
  rcases Go.Deep.open_slice ht h with ⟨hcs, _⟩ | ⟨a', len', cap', m, n, D, Pl, hcs, _, hle, hm, hmm, _, hi⟩
  · simp at hcs
    obtain ⟨rfl, rfl, rfl⟩ := hcs
    exact ⟨[], rfl, RdG.nil R w, fun _ h => by simp at h⟩
  · simp at hcs
    obtain ⟨rfl, rfl, rfl⟩ := hcs
    have hlm : len ≤ m := by rw [hmm]; split <;> omega
    have key : ∀ i, ∃ x : α, i < len → Ok x ∧ ∀ j, j < R.m → w.cell? (a'.add (i * R.m + j)) = (R.cells x)[j]? := by
      intro i
      by_cases hil : i < len
      · obtain ⟨cs', hc, htr⟩ := hi i (by omega)
        rw [hC] at hc
        obtain ⟨x, hx, hok⟩ := hl _ _ _ htr
        obtain ⟨_, hcl, hat⟩ := World.cells?_some hc
        refine ⟨x, fun _ => ⟨hok, fun j hj => ?_⟩⟩
        rw [← Go.Deep.add_add, hat j hj, hx]
      · exact ⟨default, fun h => absurd h hil⟩
    have hlen : ((List.range len).map fun i => Classical.choose (key i)).length = len := by simp
    refine ⟨(List.range len).map fun i => Classical.choose (key i), hlen.symm, ?_, fun x hx => ?_⟩
    · refine ⟨some a', cap, rfl, by rw [hlen]; omega, (fun e => by cases e), fun h0 => ?_⟩
      rw [hlen] at h0
      have h1 := (Classical.choose_spec (key 0) h0).2 0 R.pos
      have hp : 0 < (R.cells (Classical.choose (key 0))).length := by rw [R.len]; exact R.pos
      rw [List.getElem?_eq_getElem hp] at h1
      obtain ⟨b, off, spot⟩ := a'
      have hspot : spot = none := by simpa [Addr.add] using World.cell?_spot h1
      subst hspot
      rw [Go.WideShapes.add_plain] at h1
      refine ⟨b, off, rfl, World.block_lt_of_cell? w _ h1, fun i hi j hj => ?_⟩
      rw [hlen] at hi
      have h2 := (Classical.choose_spec (key i) hi).2 j hj
      rw [Go.WideShapes.add_plain] at h2
      rw [Nat.add_assoc, h2]
      simp
    · obtain ⟨i, hi, rfl⟩ := List.mem_map.1 hx
      exact (Classical.choose_spec (key i) (List.mem_range.1 hi)).1
/-- A field of a struct. -/
theorem field_cells {e : TypeId} {fs : Array Field} (he : P.underlying e = some (.struct fs)) {n : Nat} {cs : List Value} {y : DataW H × List MemPlace} (h : DataW.trod enc P w base spare held n e cs = some y) :
    cs.length = P.cellsOf e ∧ ∀ (j : Nat) (f : Field), fs[j]? = some f → ∃ n y, DataW.trod enc P w base spare held n f.type ((cs.drop f.offset).take (P.cellsOf f.type)) = some y := by
  obtain ⟨xs, n', _, _, hlen, hxl, hf⟩ := DataW.trod_struct he h
  refine ⟨hlen, fun j f hj => ?_⟩
  have h1 := hf j f hj
  have hjl : j < xs.length := by have := (Array.getElem?_eq_some_iff.1 hj).1; omega
  rw [List.getElem?_eq_getElem hjl] at h1
  exact ⟨n', _, h1⟩
theorem one_drop {cs : List Value} {j : Nat} (hj : j < cs.length) : (cs.drop j).take 1 = [cs[j]] := by rw [List.drop_eq_getElem_cons hj]; rfl
theorem bool_cell {t : TypeId} {n : Nat} {c : Value} {y : DataW H × List MemPlace} (ht : P.underlying t = some .bool) (h : DataW.trod enc P w base spare held n t [c] = some y) : ∃ x, c = .bool x := by
  cases n with
  | zero => simp [DataW.trod] at h
  | succ n =>
    unfold DataW.trod at h
    rw [ht] at h
    split at h <;> simp_all
end
end Go.Mem
