/-
  Slices of integers, read; and the calls' own rows of integers, made longer or written: as things in memory. Plain lemmas.
-/
import Derived.Test.YtfafecgnjjkagaaSep
namespace Go.Mem
open Go Go.RowKit

/-- A slice of integers, read: its elements' cells, one behind the other. -/
def Rd (k : IntKind) (w : World) (v : Value) (zs : List Int) : Prop :=
  ∃ a cap, v = .slice a zs.length cap ∧ zs.length ≤ maxLen ∧ (a = none → cap = 0) ∧ (0 < zs.length → ∃ b off, a = some ⟨b, off, none⟩ ∧ b < w.heap.size ∧ ∀ j, j < zs.length → w.cell? ⟨b, off + j, none⟩ = some (.int k (zs.getD j 0)))

section
variable {k : IntKind} {w w' : World} {v : Value} {zs : List Int} {a : Option Addr} {n cap : Nat}
theorem Rd.at (h : Rd k w (.slice a n cap) zs) (i : Nat) (hi : i < zs.length) : ∃ b off, a = some ⟨b, off, none⟩ ∧ b < w.heap.size ∧ w.cell? ⟨b, off + i, none⟩ = some (.int k (zs.getD i 0)) := by
  obtain ⟨a', cap', e, _, _, hc⟩ := h
  injection e with e1 _ _
  obtain ⟨b, off, rfl, hb, hc⟩ := hc (by omega)
  exact ⟨b, off, e1, hb, hc i hi⟩
theorem Rd.len (h : Rd k w (.slice a n cap) zs) : n = zs.length := by
  obtain ⟨a', cap', e, _⟩ := h
  injection e
theorem Rd.le (h : Rd k w v zs) : zs.length ≤ maxLen := let ⟨_, _, _, h, _⟩ := h; h
theorem Rd.le' (h : Rd k w v zs) : zs.length ≤ 9223372036854775807 := by have := h.le; unfold maxLen at this; exact this
theorem Rd.shape (h : Rd k w v zs) : ∃ a cap, v = .slice a zs.length cap := let ⟨a, cap, e, _⟩ := h; ⟨a, cap, e⟩
theorem Rd.below (h : Rd k w v zs) (hb : Below w.heap.size w w') : Rd k w' v zs := by
  obtain ⟨a, cap, e, hl, hn, hc⟩ := h
  refine ⟨a, cap, e, hl, hn, fun h0 => ?_⟩
  obtain ⟨b, off, e, hlt, hc⟩ := hc h0
  exact ⟨b, off, e, Nat.lt_of_lt_of_le hlt hb.size, fun j hj => (hb.cell (p := ⟨b, off + j, none⟩) hlt).trans (hc j hj)⟩
theorem Rd.nil (k : IntKind) (w : World) : Rd k w (.slice none 0 0) [] := ⟨none, 0, rfl, by simp, fun _ => rfl, fun h => by simp at h⟩
theorem Rd.ofCells {b : Nat} {E : TypeId} {fr : Nat × Nat} (zs : List Int) (h : w.heap[b]? = some (.cells (zs.map (Value.int k)).toArray E fr)) (cap : Nat) (hl : zs.length ≤ maxLen) : Rd k w (.slice (some ⟨b, 0, none⟩) zs.length cap) zs := by
  refine ⟨_, cap, rfl, hl, by simp, fun _ => ⟨b, 0, rfl, lt_of h, fun j hj => ?_⟩⟩
  rw [Nat.zero_add, cell_of h]
  simp [hj]
theorem IsRow.rd {len cap : Nat} {zs : List Int} (h : IsRow k w a len cap zs) : Rd k w (.slice a len cap) (zs.take len) ∧ ∀ x ∈ zs.take len, (Lit.int k x).wf = true := by
  have hg := h.get
  rcases h with ⟨rfl, rfl, rfl, rfl⟩ | ⟨x, rfl, hl, hm, hz, hc, hw⟩
  · exact ⟨by simpa using Rd.nil k w, by simp⟩
  · have hlen : (zs.take len).length = len := by simp; omega
    refine ⟨⟨some x, cap, by rw [hlen], by omega, by simp, fun h0 => ?_⟩, fun y hy => hw y (List.mem_of_mem_take hy)⟩
    obtain ⟨b, off, e, hb, hc⟩ := hg 0 (by omega)
    refine ⟨b, off, e, hb, fun j hj => ?_⟩
    rw [hc j (by omega)]
    have hj' : j < len := by omega
    have hj2 : j < zs.length := by omega
    simp [List.getD, List.getElem?_take, hj', hj2]
theorem IOwn.rd {E : TypeId} (h : IOwn k E w v zs) : Rd k w v zs := by
  have hg := h.get
  have h' := h
  rcases h.2 with ⟨rfl, h0⟩ | ⟨g, cap, cur, rfl, hb, hgg, hnc, hcm, rest⟩
  · obtain rfl : zs = [] := List.eq_nil_of_length_eq_zero h0
    exact Rd.nil k w
  · refine ⟨some ⟨g, 0, none⟩, cap, rfl, by omega, by simp, fun h0 => ?_⟩
    obtain ⟨g', cap', e, hb, hc, _⟩ := hg 0 h0
    injection e with e1 _ _
    refine ⟨g', 0, e1, hb, fun j hj => ?_⟩
    rw [Nat.zero_add]; exact hc j hj
end

theorem Parts.join {w0 w w' : World} {L M : List (Nat → Prop)} (h : Parts w0 w L) (k : Parts w w' M) : Parts w0 w' (M ++ L) := by
  have look : ∀ (j : Nat) C, (M ++ L)[j]? = some C → (j < M.length ∧ M[j]? = some C) ∨ (M.length ≤ j ∧ L[j - M.length]? = some C) := by
    intro j C hC
    rcases Nat.lt_or_ge j M.length with hj | hj
    · rw [List.getElem?_append_left hj] at hC; exact .inl ⟨hj, hC⟩
    · rw [List.getElem?_append_right hj] at hC; exact .inr ⟨hj, hC⟩
  refine ⟨fun i j A B hA hB hne b hb hb2 => ?_, fun i A hA b hb => ?_, h.below.trans (k.below.mono h.below.size)⟩
  · rcases look i A hA with ⟨h1, h2⟩ | ⟨h1, h2⟩ <;> rcases look j B hB with ⟨h3, h4⟩ | ⟨h3, h4⟩
    · exact k.dis i j A B h2 h4 hne b hb hb2
    · have := (k.rng i A h2 b hb).1; have := (h.rng _ B h4 b hb2).2; omega
    · have := (k.rng j B h4 b hb2).1; have := (h.rng _ A h2 b hb).2; omega
    · exact h.dis _ _ A B h2 h4 (by omega) b hb hb2
  · rcases look i A hA with ⟨h1, h2⟩ | ⟨h1, h2⟩
    · have := k.rng i A h2 b hb; have := h.below.size; exact ⟨by omega, by omega⟩
    · have := h.rng _ A h2 b hb; have := k.below.size; exact ⟨by omega, by omega⟩

section
variable {w0 w w' : World} {L M : List Thing}
/-- What a call leaves, beside all that was there. -/
theorem Sep.join (h : Sep w0 w L) (k : Sep w w' M) : Sep w0 w' (M ++ L) := by
  have hb := k.below
  obtain ⟨Ss, hl, ha, p⟩ := h
  obtain ⟨Ts, kl, ka, q⟩ := k
  refine ⟨Ts ++ Ss, by simp [hl, kl], fun j C T hC hT => ?_, p.join q⟩
  rcases Nat.lt_or_ge j M.length with hj | hj
  · rw [List.getElem?_append_left hj] at hC
    rw [List.getElem?_append_left (by omega)] at hT
    exact ka j C T hC hT
  · rw [List.getElem?_append_right hj] at hC
    rw [List.getElem?_append_right (by omega), kl] at hT
    exact C.stay (ha _ C T hC hT) (Fr.below (S := fun _ => False) hb) (fun _ _ h => h)
theorem Sep.ofBelow (h : Below w.heap.size w w') : Sep w w' [] := (Sep.start w).belowStep h
theorem Sep.rdInts {k : IntKind} {E : TypeId} {v : Value} {zs : List Int} (h : Sep w0 w L) (i : Nat) (hi : L[i]? = some (intsT k E v zs)) : Rd k w v zs := (h.ints i hi).rd
theorem Sep.rd {k : IntKind} {v : Value} {zs : List Int} (h : Sep w0 w L) (hr : Rd k w0 v zs) : Rd k w v zs := hr.below h.below
/-- One element of an own row is written. -/
theorem Sep.setInts {k : IntKind} {E : TypeId} {g n cap j : Nat} {zs : List Int} (h : Sep w0 w L) (i : Nat) (hi : L[i]? = some (intsT k E (.slice (some ⟨g, 0, none⟩) n cap) zs)) (x : Int) :
    Sep w0 (w.setCell ⟨g, j, none⟩ (.int k x)) (L.set i (intsT k E (.slice (some ⟨g, 0, none⟩) n cap) (zs.set j x))) :=
  h.turn i hi fun S hS => by
    obtain ⟨rfl, hS⟩ := hS
    refine ⟨_, ⟨rfl, ?_⟩, ?_, fun j hj => .inl hj⟩
    · obtain ⟨_, _, e⟩ := hS.shape
      injection e with _ e2 _
      subst e2
      unfold IOwn at hS
      have h1 := (World.ownsRow.stored hS j (.int k x)).1
      unfold IOwn
      rw [List.length_set, List.map_set]
      exact h1
    · exact Fr.setCell _ _ _ rfl
end

/-- A row of integers that has just been laid, its numbers known. -/
theorem Sep.litInts {w0 w : World} {L : List Thing} (h : Sep w0 w L) (k : IntKind) (E : TypeId) (zs : List Int) (hl : zs.length ≤ maxLen) :
    Sep w0 (w.alloc (.cells (zs.map (Value.int k)).toArray E)) (intsT k E (.slice (some ⟨w.heap.size, 0, none⟩) zs.length zs.length) zs :: L) := by
  refine h.consNew (S := Blk (.slice (some ⟨w.heap.size, 0, none⟩) zs.length zs.length)) (Fr.alloc _ _) ⟨rfl, ?_⟩ (fun j hj => ?_)
  · refine ⟨by simp, .inr ⟨w.heap.size, zs.length, _, rfl, Nat.zero_le _, heap_alloc_new w _, Nat.le_refl _, hl, by simp, ?_⟩⟩
    rw [List.take_of_length_le] <;> simp
  · simp [Blk, Value.ownBlock] at hj; omega

section
variable {P : Program} {w0 w : World} {L : List Thing}
theorem run_append_none {w : World} (t ty e : TypeId) (i : TypeInfo) (size : Nat) (ht : P.underlying t = some (.slice e)) (hi : P.info? e = some i)
    (v : Value) (n : Nat) (xs : List Value) (hown : w.ownsRow 0 e size v n xs) : (Builtin.append_ #[t, t] ty #[v, .slice none 0 0]).run P w = .ok v w := by
  rcases hown.2 with ⟨rfl, rfl⟩ | ⟨g, cap, cur, rfl, hb, hg, hnc, hcm, hcs, htake⟩
  · simp [Builtin.append_, run_underlying ht, sizeOf, typeInfo, hi, Builtin.lenOf, Builtin.firstCells]
  · simp [Builtin.append_, run_underlying ht, sizeOf, typeInfo, hi, Builtin.lenOf, Builtin.firstCells, hnc, storeCells]
/-- 's = append(s, xs...)' of integers. -/
theorem wpList_appRd {ops : Array Oper} {rest : List Oper} {o : Oper} {a : Act} {Q : Exit → Act → World → Prop} (hgd : o.guard = none) (s x : Operand) (t : TypeId)
    (ho : o.op = .call { callee := .builtin .append, args := #[s, x], argTypes := #[t, t] })
    (e : TypeId) (i : TypeInfo) (z : Value) (bytes : Nat) (ht : P.underlying t = some (.slice e)) (hi : P.info? e = some i) (hz : i.zero = some z)
    (hsize : i.size = 1) (hby : i.bytes = bytes) (hzs : z.cells.size = 1)
    (v : Value) (zs : List Int) (k : IntKind) (y : Value) (ys : List Int) (hsep : Sep w0 w L) (j : Nat) (hj : L[j]? = some (intsT k e v zs)) (hr : Rd k w y ys)
    (hs : a.eval s = v) (hx : a.eval x = y)
    (h63 : zs.length + ys.length ≤ maxLen) (hbytes : (zs.length + ys.length) * bytes ≤ 140737488355328)
    (h : ∀ v' w', Sep w0 w' (L.set j (intsT k e v' (zs ++ ys))) → wpList P ops Q rest (a.put o.dst v') w') :
    wpList P ops Q (o :: rest) a w := by
  refine wpList_plain hgd fun K hK => ?_
  have hown := hsep.ints j hj
  unfold IOwn at hown
  obtain ⟨ad, cap, rfl, hlm, hnc, hc⟩ := hr
  match ad, hnc, hc with
  | none, hnc, hc =>
    have hc0 := hnc rfl
    have hy0 : ys = [] := by
      rcases ys with _ | ⟨q, ys⟩
      · rfl
      · obtain ⟨b, off, e, _⟩ := hc (by simp); cases e
    subst hy0; subst hc0
    have hr := run_append_none (P := P) t o.type e i 1 ht hi v zs.length _ hown
    unfold Oper.wp execOp
    simp only [ho, resolve, invoke, builtin, Sem.run_bind, Sem.run_pure, Result.andThen_ok, List.map_toArray, List.map_cons, List.map_nil, hs, hx, List.length_nil, hr]
    have h2 := h v w (by rw [List.append_nil]; have : L.set j (intsT k e v zs) = L := by obtain ⟨hlt, he⟩ := List.getElem?_eq_some_iff.1 hj; rw [← he]; exact List.set_getElem_self _
                         rw [this]; exact hsep)
    exact hK _ _ h2
  | some ad, hnc, hc =>
    have hnews : ∀ j u, (ys.map (Value.int k))[j]? = some u → w.cell? (ad.add j) = some u := by
      intro j u hu
      have hj : j < ys.length := by have := (List.getElem?_eq_some_iff.1 hu).1; simpa using this
      obtain ⟨b, off, e, hb, hcell⟩ := hc (by omega)
      injection e with e
      subst e
      have hadd : (⟨b, off, none⟩ : Addr).add j = ⟨b, off + j, none⟩ := by unfold Addr.add; split <;> simp_all
      rw [hadd, hcell j hj]
      simpa [hj] using hu
    obtain ⟨v', w', hr, hA⟩ := run_append (P := P) (w := w) t o.type e i z 1 bytes ht hi hz hsize hby hzs (by omega) v zs.length _ hown ad ys.length cap (ys.map (Value.int k)) (by simp) hnews
      (by intro u hu; obtain ⟨q, _, rfl⟩ := List.mem_map.1 hu; rfl) h63 hbytes
    unfold Oper.wp execOp
    simp only [ho, resolve, invoke, builtin, Sem.run_bind, Sem.run_pure, Result.andThen_ok, List.map_toArray, List.map_cons, List.map_nil, hs, hx, hr]
    refine hK _ _ (h v' w' (hsep.turn j hj fun S hS => ⟨Blk v', ⟨rfl, ?_⟩, by rw [hS.1]; exact hA.fr, by rw [hS.1]; exact hA.block⟩))
    unfold IOwn
    simpa using hA.own
theorem madeCells_int (k : IntKind) (n : Nat) : madeCells (Value.int k 0).cells (n * 1) = ((List.replicate n 0).map (Value.int k)).toArray := by
  apply Array.ext'
  simp only [madeCells, Value.cells, Nat.mul_one, List.map_replicate]
  apply List.ext_getElem
  · simp
  · intro i h1 h2
    simp [Nat.mod_one]
/-- 'make([]int, n)'. -/
theorem wpList_makeInts {ops : Array Oper} {rest : List Oper} {o : Oper} {a : Act} {Q : Exit → Act → World → Prop} (hgd : o.guard = none) (x y : Operand) (t : TypeId)
    (ho : o.op = .makeSlice t x y) (e : TypeId) (i : TypeInfo) (k : IntKind) (bytes : Nat) (ht : P.underlying t = some (.slice e)) (hi : P.info? e = some i) (hz : i.zero = some (.int k 0))
    (hsize : i.size = 1) (hby : i.bytes = bytes) (n : Nat) (kl kc : IntKind) (hx : a.eval x = .int kl n) (hy : a.eval y = .int kc n) (hsep : Sep w0 w L)
    (h63 : n ≤ maxLen) (hbytes : bytes * n ≤ 281474976710656)
    (h : ∀ w' g, Sep w0 w' (intsT k e (.slice (some ⟨g, 0, none⟩) n n) (List.replicate n 0) :: L) → wpList P ops Q rest (a.put o.dst (.slice (some ⟨g, 0, none⟩) n n)) w') :
    wpList P ops Q (o :: rest) a w := by
  refine wpList_plain hgd fun K hK => ?_
  have hb : (i.bytes : Int) * (n : Int) ≤ 281474976710656 := by
    rw [hby]
    have : ((bytes * n : Nat) : Int) ≤ 281474976710656 := by omega
    rwa [Int.natCast_mul] at this
  have h63' := h63
  simp only [maxLen] at h63'
  have hr := run_make (P := P) w t e i (.int k 0) ht hi hz kl kc (n : Int) (n : Int) (by omega) (Int.le_refl _) hb (by omega)
  simp only [Int.toNat_natCast, hsize, madeCells_int] at hr
  have hs := hsep.litInts k e (List.replicate n 0) (by simpa using h63)
  simp only [List.length_replicate] at hs
  unfold Oper.wp execOp
  simp only [ho, hx, hy, Sem.run_bind, Sem.run_pure, Result.andThen_ok, hr]
  exact hK _ _ (h _ _ hs)
/-- 's = append(s, x)' of integers: ONE MORE; x lies in block B. -/
theorem wpList_appIntB {ops : Array Oper} {rest : List Oper} {o : Oper} {a : Act} {Q : Exit → Act → World → Prop} (hgd : o.guard = none) (s x : Operand) (t : TypeId)
    (ho : o.op = .call { callee := .builtin .append, args := #[s, x], argTypes := #[t, t] })
    (e : TypeId) (i : TypeInfo) (z : Value) (bytes : Nat) (ht : P.underlying t = some (.slice e)) (hi : P.info? e = some i) (hz : i.zero = some z)
    (hsize : i.size = 1) (hby : i.bytes = bytes) (hzs : z.cells.size = 1)
    (v : Value) (zs : List Int) (k : IntKind) (q : Int) (hsep : Sep w0 w L) (j : Nat) (hj : L[j]? = some (intsT k e v zs)) (B : Nat) (hB : w.heap[B]? = some (.cells #[.int k q] e (0, 0)))
    (hs : a.eval s = v) (hx : a.eval x = .slice (some ⟨B, 0, none⟩) 1 1)
    (h63 : zs.length + 1 ≤ maxLen) (hbytes : (zs.length + 1) * bytes ≤ 140737488355328)
    (h : ∀ v' w', Sep w0 w' (L.set j (intsT k e v' (zs ++ [q]))) → Hid (∃ g cap, v' = .slice (some ⟨g, 0, none⟩) (zs.length + 1) cap) → wpList P ops Q rest (a.put o.dst v') w') :
    wpList P ops Q (o :: rest) a w := by
  have hown := hsep.ints j hj
  unfold IOwn at hown
  refine wpList_append1 hgd s x t ho e i z 1 bytes ht hi hz hsize hby hzs (by omega) v zs.length _ hs hown B _ _ _ hx hB rfl (by simp [Value.oneCell']) h63 hbytes ?_
  intro v' w' hA
  refine h v' w' (hsep.appInts j hj rfl hA) (hA.shape (by omega))
/-- x lies in the block that has just been laid for it. -/
theorem wpList_appInt {ops : Array Oper} {rest : List Oper} {o : Oper} {a : Act} {Q : Exit → Act → World → Prop} (hgd : o.guard = none) (s x : Operand) (t : TypeId)
    (ho : o.op = .call { callee := .builtin .append, args := #[s, x], argTypes := #[t, t] })
    (e : TypeId) (i : TypeInfo) (z : Value) (bytes : Nat) (ht : P.underlying t = some (.slice e)) (hi : P.info? e = some i) (hz : i.zero = some z)
    (hsize : i.size = 1) (hby : i.bytes = bytes) (hzs : z.cells.size = 1)
    (v : Value) (zs : List Int) (k : IntKind) (q : Int) (hsep : Sep w0 w L) (j : Nat) (hj : L[j]? = some (intsT k e v zs)) (hs : a.eval s = v) (hx : a.eval x = .slice (some ⟨w.heap.size, 0, none⟩) 1 1)
    (h63 : zs.length + 1 ≤ maxLen) (hbytes : (zs.length + 1) * bytes ≤ 140737488355328)
    (h : ∀ v' w', Sep w0 w' (L.set j (intsT k e v' (zs ++ [q]))) → Hid (∃ g cap, v' = .slice (some ⟨g, 0, none⟩) (zs.length + 1) cap) → wpList P ops Q rest (a.put o.dst v') w') :
    wpList P ops Q (o :: rest) a (w.alloc (.cells #[.int k q] e)) :=
  wpList_appIntB hgd s x t ho e i z bytes ht hi hz hsize hby hzs v zs k q (hsep.alloc _) j hj w.heap.size (heap_alloc_new w _) hs hx h63 hbytes h
end
end Go.Mem
