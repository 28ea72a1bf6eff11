/-
  What an archive keeps: a round put in its place, read, brought together. Plain lemmas.
-/
import Derived.Test.YtfnkmkfkomhhnaaVPlain
namespace Go.ArchP
open Go Go.RowKit Go.Mem Go.NetP Go.CertP

/-- How many are kept, with one more. -/
def cap4 (n : Int) : Int := if n + 1 ≤ 4 then n + 1 else 4
theorem cap4_le {n : Int} (h : 0 ≤ n ∧ n ≤ 4) : 0 ≤ cap4 n ∧ cap4 n ≤ 4 := by unfold cap4; split <;> omega
theorem flat_put : ∀ (ks : List Ro) (k : Nat) (r : Ro), k < ks.length → roR.flat (ks.set k r) =
    ((((((((roR.flat ks).set (k * 8) (.int .u64 r.no)).set (k * 8 + 1) (.int .i64 r.day)).set (k * 8 + 2) (.bool r.comp)).set (k * 8 + 3) (.slice r.ai r.ids.length r.ci)).set (k * 8 + 4) (.int .i64 r.n)).set (k * 8 + 5) (.slice r.ae r.es.length r.ce)).set (k * 8 + 6) (.slice r.af r.fl.length r.cf)).set (k * 8 + 7) (.slice r.ap r.pot.length r.cp)
  | [], k, _, h => by simp at h
  | x :: t, 0, r, _ => by simp [Rec.flat, roR]
  | x :: t, k + 1, r, h => by
    have ih := flat_put t k r (by simpa using h)
    have e : ∀ (l : List Value) (j : Nat) (u : Value), (roR.cells x ++ l).set ((k + 1) * 8 + j) u = roR.cells x ++ l.set (k * 8 + j) u := fun l j u => by
      have h8 : (roR.cells x).length = 8 := rfl
      rw [List.set_append_right _ _ (by rw [h8]; omega), h8, show (k + 1) * 8 + j - 8 = k * 8 + j by omega]
    have e0 : ∀ (l : List Value) (u : Value), (roR.cells x ++ l).set ((k + 1) * 8) u = roR.cells x ++ l.set (k * 8) u := fun l u => e l 0 u
    simp only [List.set_cons_succ, Rec.flat, List.flatMap_cons] at ih ⊢
    rw [ih]
    simp only [e, e0]

section
variable {Tu Te Ti T : TypeId} {w w' w0 w2 : World} {r : Ro} {L : List Thing}
theorem Sep.archNew {b : Nat} {ks : List Ro} {n no : Int} (h : Sep w0 w (cellsT b (roR.flat ks ++ [Value.int .u64 n, Value.int .u64 no]).toArray T :: L)) (hk : ∀ r ∈ ks, r = default) : Sep w0 w (archT Tu Te Ti T b ks n no :: L) := by
  have hd : ∀ r ∈ ks, ∀ k, ¬ r.blk k := fun r hr k q => by
    rw [hk r hr] at q
    rcases q with q | q | q | q <;> simp [default, Blk, Value.ownBlock] at q
  refine h.swap 0 rfl fun S hS => ⟨(fun k => k = b ∨ ∃ r ∈ ks, r.blk k), ⟨fun k => Iff.rfl, hS.2, fun r hr => ⟨hd r hr b, ?_⟩⟩, fun k q => ?_⟩
  · rw [hk r hr]
    exact ⟨IOwn.nil _ _ _, ROwn.nil _ _ _, IOwn.nil _ _ _, IOwn.nil _ _ _⟩
  · rcases q with q | ⟨r, hr, q⟩
    · rw [hS.1]; exact q
    · exact (hd r hr k q).elim
theorem Sep.archN {b : Nat} {ks : List Ro} {n no : Int} (h4 : ks.length = 4) (h : Sep w0 w L) (i : Nat) (hi : L[i]? = some (archT Tu Te Ti T b ks n no)) (m : Int) :
    Sep w0 (w.setCell ⟨b, 32, none⟩ (.int .u64 m)) (L.set i (archT Tu Te Ti T b ks m no)) := by
  have hl : (roR.flat ks).length = 32 := by rw [roR.flat_length, h4]; rfl
  refine h.turn i hi fun S hS => ⟨S, ⟨hS.1, cells_put hS.2.1 ?_, fun r hr => ⟨(hS.2.2 r hr).1, (hS.2.2 r hr).2.frame (Fr.setCell (S := (· = b)) _ _ _ rfl) fun k q e => (hS.2.2 r hr).1 (e ▸ q)⟩⟩, Fr.setCell _ _ _ ((hS.1 b).2 (.inl rfl)), fun j hj => .inl hj⟩
  rw [List.setIfInBounds_toArray, List.set_append_right _ _ (by omega), hl]
  rfl
theorem Sep.archNo {b : Nat} {ks : List Ro} {n no : Int} (h4 : ks.length = 4) (h : Sep w0 w L) (i : Nat) (hi : L[i]? = some (archT Tu Te Ti T b ks n no)) (m : Int) :
    Sep w0 (w.setCell ⟨b, 33, none⟩ (.int .u64 m)) (L.set i (archT Tu Te Ti T b ks n m)) := by
  have hl : (roR.flat ks).length = 32 := by rw [roR.flat_length, h4]; rfl
  refine h.turn i hi fun S hS => ⟨S, ⟨hS.1, cells_put hS.2.1 ?_, fun r hr => ⟨(hS.2.2 r hr).1, (hS.2.2 r hr).2.frame (Fr.setCell (S := (· = b)) _ _ _ rfl) fun k q e => (hS.2.2 r hr).1 (e ▸ q)⟩⟩, Fr.setCell _ _ _ ((hS.1 b).2 (.inl rfl)), fun j hj => .inl hj⟩
  rw [List.setIfInBounds_toArray, List.set_append_right _ _ (by omega), hl]
  rfl
/-- A round with lists of its own is put in place k. -/
theorem Sep.archPut {b : Nat} {ks : List Ro} {n no : Int} (h : Sep w0 w L) (i : Nat) (hi : L[i]? = some (archT Tu Te Ti T b ks n no)) (k1 : Sep w w2 [roT Tu Te Ti r]) (k : Nat) (hk : k < ks.length) :
    Sep w0 ((((((((w2.setCell ⟨b, k * 8, none⟩ (.int .u64 r.no)).setCell ⟨b, k * 8 + 1, none⟩ (.int .i64 r.day)).setCell ⟨b, k * 8 + 2, none⟩ (.bool r.comp)).setCell ⟨b, k * 8 + 3, none⟩ (.slice r.ai r.ids.length r.ci)).setCell ⟨b, k * 8 + 4, none⟩ (.int .i64 r.n)).setCell ⟨b, k * 8 + 5, none⟩ (.slice r.ae r.es.length r.ce)).setCell ⟨b, k * 8 + 6, none⟩ (.slice r.af r.fl.length r.cf)).setCell ⟨b, k * 8 + 7, none⟩ (.slice r.ap r.pot.length r.cp))
      (L.set i (archT Tu Te Ti T b (ks.set k r) n no)) := by
  obtain ⟨S, ⟨hS, hb, hr⟩, hu⟩ := h.use i hi
  obtain ⟨S1, ⟨hS1, how⟩, hfresh⟩ := k1.fresh 0 rfl
  have hbl : b < w.heap.size := lt_of hb
  have hnb : ¬ r.blk b := fun q => by have := hfresh b ((hS1 b).2 q); omega
  have hf0 : Fr (fun _ => False) w w2 := Fr.below k1.below
  have hb2 := (hf0.block b hbl (fun q => q)).trans hb
  have hl8 : (roR.flat ks).length = ks.length * 8 := roR.flat_length ks
  have fr : ∀ (W : World) (o : Nat) (u : Value), Fr (· = b) w2 W → Fr (· = b) w2 (W.setCell ⟨b, o, none⟩ u) := fun W o u q => q.trans (Fr.setCell (S := (· = b)) _ _ _ rfl) (fun _ _ q => q)
  have st : ∀ (W : World) (l : List Value) (o : Nat) (u : Value), o < l.length → W.heap[b]? = some (.cells (l ++ [Value.int .u64 n, Value.int .u64 no]).toArray T (0, 0)) → (W.setCell ⟨b, o, none⟩ u).heap[b]? = some (.cells (l.set o u ++ [Value.int .u64 n, Value.int .u64 no]).toArray T (0, 0)) := fun W l o u ho q => by
    refine cells_put q ?_
    rw [List.setIfInBounds_toArray, List.set_append_left _ _ ho]
  have hfr := fr _ (k * 8 + 7) (.slice r.ap r.pot.length r.cp) (fr _ (k * 8 + 6) (.slice r.af r.fl.length r.cf) (fr _ (k * 8 + 5) (.slice r.ae r.es.length r.ce) (fr _ (k * 8 + 4) (.int .i64 r.n) (fr _ (k * 8 + 3) (.slice r.ai r.ids.length r.ci) (fr _ (k * 8 + 2) (.bool r.comp) (fr _ (k * 8 + 1) (.int .i64 r.day) (fr _ (k * 8) (.int .u64 r.no) (Fr.refl _ _))))))))
  have hst := st _ _ (k * 8 + 7) (.slice r.ap r.pot.length r.cp) (by simp only [List.length_set]; omega) (st _ _ (k * 8 + 6) (.slice r.af r.fl.length r.cf) (by simp only [List.length_set]; omega) (st _ _ (k * 8 + 5) (.slice r.ae r.es.length r.ce) (by simp only [List.length_set]; omega) (st _ _ (k * 8 + 4) (.int .i64 r.n) (by simp only [List.length_set]; omega) (st _ _ (k * 8 + 3) (.slice r.ai r.ids.length r.ci) (by simp only [List.length_set]; omega) (st _ _ (k * 8 + 2) (.bool r.comp) (by simp only [List.length_set]; omega) (st _ _ (k * 8 + 1) (.int .i64 r.day) (by simp only [List.length_set]; omega) (st _ _ (k * 8) (.int .u64 r.no) (by omega) hb2)))))))
  rw [← flat_put ks k r hk] at hst
  refine hu _ _ (fun j => j = b ∨ ∃ q ∈ ks.set k r, q.blk j) ⟨fun _ => Iff.rfl, hst, fun q hq => ?_⟩ ⟨?_, fun j hj => ?_⟩
  · rcases List.mem_or_eq_of_mem_set hq with hq | rfl
    · exact ⟨(hr q hq).1, (((hr q hq).2.frame hf0 fun _ _ e => e).frame hfr fun j hj e => (hr q hq).1 (e ▸ hj))⟩
    · exact ⟨hnb, how.frame hfr fun j hj e => hnb (e ▸ hj)⟩
  · exact (hf0.mono (fun _ _ q => q.elim)).trans (hfr.mono (fun j _ e => e ▸ (hS b).2 (.inl rfl))) (fun _ _ q => q)
  · rcases hj with rfl | ⟨q, hq, hj⟩
    · exact .inl ((hS _).2 (.inl rfl))
    · rcases List.mem_or_eq_of_mem_set hq with hq | rfl
      · exact .inl ((hS j).2 (.inr ⟨q, hq, hj⟩))
      · exact .inr (hfresh j ((hS1 j).2 hj))
/-- Rounds with lists of their own. -/
def bagT (Tu Te Ti : TypeId) (rs : List Ro) : Thing where
  is w S := (∀ k, S k ↔ ∃ r ∈ rs, r.blk k) ∧ ∀ r ∈ rs, r.Own Tu Te Ti w
  low := by rintro w S ⟨hS, h⟩ k hk; obtain ⟨r, hr, q⟩ := (hS k).1 hk; exact (h r hr).low q
  stay := by rintro w w' S U ⟨hS, h⟩ hf hd; exact ⟨hS, fun r hr => (h r hr).frame hf fun k q => hd k ((hS k).2 ⟨r, hr, q⟩)⟩
theorem Sep.bag {i : Nat} {rs : List Ro} (h : Sep w0 w L) (hi : L[i]? = some (bagT Tu Te Ti rs)) : ∀ r ∈ rs, r.Ok w := by
  obtain ⟨_, _, h⟩ := h.at i hi
  exact fun r hr => (h r hr).ok
theorem Sep.bagNil (h : Sep w0 w L) : Sep w0 w (bagT Tu Te Ti [] :: L) := h.bare ⟨fun k => by simp, fun r hr => by simp at hr⟩
theorem Sep.bagAdd {rs : List Ro} (h : Sep w0 w (roT Tu Te Ti r :: bagT Tu Te Ti rs :: L)) : Sep w0 w (bagT Tu Te Ti (rs ++ [r]) :: L) := by
  obtain ⟨Ss, hl, ha, p⟩ := h
  match Ss, hl with
  | S0 :: S1 :: Ss, hl =>
    obtain ⟨e0, h0⟩ := ha 0 _ _ rfl rfl
    obtain ⟨e1, h1⟩ := ha 1 _ _ rfl rfl
    refine ⟨_ :: Ss, by simpa using hl, fun j C S hC hS => ?_, p.fuse⟩
    match j, hC, hS with
    | 0, hC, hS =>
      simp only [List.getElem?_cons_zero, Option.some.injEq] at hC hS
      subst hC; subst hS
      refine ⟨fun k => ?_, fun q hq => ?_⟩
      · show (S0 k ∨ S1 k) ↔ _
        rw [e0 k, e1 k]
        simp only [List.mem_append, List.mem_singleton, or_and_right, exists_or, exists_eq_left]
        exact or_comm
      · rcases List.mem_append.1 hq with hq | hq
        · exact h1 q hq
        · rw [List.mem_singleton.1 hq]; exact h0
    | j + 1, hC, hS => exact ha (j + 2) C S (by simpa using hC) (by simpa using hS)
theorem Sep.bagAdd1 {A : Thing} {rs : List Ro} (h : Sep w0 w (roT Tu Te Ti r :: A :: bagT Tu Te Ti rs :: L)) : Sep w0 w (A :: bagT Tu Te Ti (rs ++ [r]) :: L) := by
  obtain ⟨Ss, hl, ha, p⟩ := h
  match Ss, hl with
  | S0 :: S1 :: S2 :: Ss, hl =>
    obtain ⟨e0, h0⟩ := ha 0 _ _ rfl rfl
    obtain ⟨e2, h2⟩ := ha 2 _ _ rfl rfl
    have q : Parts w0 w (S0 :: S2 :: S1 :: Ss) := by
      refine ⟨fun i j C D hC hD hne => ?_, fun i C hC => ?_, p.below⟩
      · have f : ∀ (i : Nat) C, (S0 :: S2 :: S1 :: Ss)[i]? = some C → (S0 :: S1 :: S2 :: Ss)[if i = 1 then 2 else if i = 2 then 1 else i]? = some C := fun i C hC => by
          match i, hC with
          | 0, hC => exact hC
          | 1, hC => exact hC
          | 2, hC => exact hC
          | i + 3, hC => exact hC
        exact p.dis _ _ C D (f i C hC) (f j D hD) (by split <;> split <;> (try split) <;> (try split) <;> omega)
      · match i, hC with
        | 0, hC => exact p.rng 0 C hC
        | 1, hC => exact p.rng 2 C hC
        | 2, hC => exact p.rng 1 C hC
        | i + 3, hC => exact p.rng (i + 3) C hC
    have q2 := q.fuse
    refine ⟨S1 :: (fun k => S0 k ∨ S2 k) :: Ss, by simpa using hl, fun j C S hC hS => ?_, ?_⟩
    · match j, hC, hS with
      | 0, hC, hS => exact ha 1 C S hC hS
      | 1, hC, hS =>
        simp only [List.getElem?_cons_zero, List.getElem?_cons_succ, Option.some.injEq] at hC hS
        subst hC; subst hS
        refine ⟨fun k => ?_, fun q hq => ?_⟩
        · show (S0 k ∨ S2 k) ↔ _
          rw [e0 k, e2 k]
          simp only [List.mem_append, List.mem_singleton, or_and_right, exists_or, exists_eq_left]
          exact or_comm
        · rcases List.mem_append.1 hq with hq | hq
          · exact h2 q hq
          · rw [List.mem_singleton.1 hq]; exact h0
      | j + 2, hC, hS => exact ha (j + 3) C S (by simpa using hC) (by simpa using hS)
    · refine ⟨fun i j C D hC hD hne => ?_, fun i C hC => ?_, p.below⟩
      · have f : ∀ (i : Nat) C, (S1 :: (fun k => S0 k ∨ S2 k) :: Ss)[i]? = some C → ((fun k => S0 k ∨ S2 k) :: S1 :: Ss)[if i = 0 then 1 else if i = 1 then 0 else i]? = some C := fun i C hC => by
          match i, hC with
          | 0, hC => exact hC
          | 1, hC => exact hC
          | i + 2, hC => exact hC
        exact q2.dis _ _ C D (f i C hC) (f j D hD) (by split <;> split <;> (try split) <;> (try split) <;> omega)
      · match i, hC with
        | 0, hC => exact q2.rng 1 C hC
        | 1, hC => exact q2.rng 0 C hC
        | i + 2, hC => exact q2.rng (i + 2) C hC
end
end Go.ArchP
