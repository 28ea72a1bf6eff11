/-
  A part of a row of records, as a thing in memory. Plain lemmas.
-/
import Derived.Test.YthcmkljdhhepgaaLA
import Derived.ArgAppend
import Derived.Laws.IdiomCopy
set_option linter.unusedVariables false
set_option linter.unusedSimpArgs false
namespace Go.Mem
open Go Go.RowKit

section
variable {α : Type}
/-- A window of records in block g, from place off on. -/
def WOwn (R : Rec α) (w : World) (v : Value) (xs : List α) : Prop :=
  (v = .slice none 0 0 ∧ xs = []) ∨
  ∃ g off cap, v = .slice (some ⟨g, off, none⟩) xs.length cap ∧ xs.length ≤ cap ∧ cap ≤ maxLen ∧ g < w.heap.size ∧
    (∀ j, j < cap * R.m → (w.cell? ⟨g, off + j, none⟩).isSome = true) ∧ (∀ j, w.frozen? ⟨g, j, none⟩ = false) ∧
    ∀ j, j < xs.length * R.m → w.cell? ⟨g, off + j, none⟩ = (R.flat xs)[j]?
variable {R : Rec α} {w w' : World} {v : Value} {xs : List α}
theorem WOwn.low (h : WOwn R w v xs) (j : Nat) (hj : Blk v j) : j < w.heap.size := by
  rcases h with ⟨rfl, _⟩ | ⟨g, off, cap, rfl, _, _, hg, _⟩
  · simp [Blk, Value.ownBlock] at hj
  · simp only [Blk, Value.ownBlock, Option.some.injEq] at hj
    omega
theorem WOwn.frame {S : Nat → Prop} (h : WOwn R w v xs) (hf : Fr S w w') (hd : ∀ k, Blk v k → ¬ S k) : WOwn R w' v xs := by
  rcases h with h | ⟨g, off, cap, rfl, h1, h2, hg, h3, h4, h5⟩
  · exact .inl h
  · have hn : ¬ S g := hd g rfl
    exact .inr ⟨g, off, cap, rfl, h1, h2, Nat.lt_of_lt_of_le hg hf.size, fun j hj => by rw [hf.cell hg hn]; exact h3 j hj, fun j => by rw [hf.frozen hg hn]; exact h4 j, fun j hj => by rw [hf.cell hg hn]; exact h5 j hj⟩
theorem WOwn.nil (R : Rec α) (w : World) : WOwn R w (.slice none 0 0) [] := .inl ⟨rfl, rfl⟩
theorem WOwn.rd (h : WOwn R w v xs) : RdG R w v xs := by
  rcases h with ⟨rfl, rfl⟩ | ⟨g, off, cap, rfl, h1, h2, hg, h3, h4, h5⟩
  · exact RdG.nil R w
  · refine ⟨some ⟨g, off, none⟩, cap, rfl, by omega, (fun e => by cases e), fun _ => ⟨g, off, rfl, hg, fun i hi j hj => ?_⟩⟩
    have hb : i * R.m + j < xs.length * R.m := by
      have : (i + 1) * R.m ≤ xs.length * R.m := Nat.mul_le_mul_right _ hi
      rw [Nat.add_mul] at this; omega
    rw [Nat.add_assoc, h5 _ hb, R.flat_get xs i hi j hj]
theorem WOwn.ofOwn {E : TypeId} (h : ROwn R E w v xs) : WOwn R w v xs := by
  unfold ROwn at h
  rcases h.2 with ⟨rfl, h0⟩ | ⟨g, cap, cur, rfl, hb, hg, hnc, hcm, hcs, ht⟩
  · exact .inl ⟨rfl, List.eq_nil_of_length_eq_zero h0⟩
  · refine .inr ⟨g, 0, cap, rfl, hnc, hcm, lt_of hg, fun j hj => ?_, fun j => frozen_of hg j, fun j hj => ?_⟩
    · rw [Nat.zero_add, cell_of hg, Array.getElem?_eq_getElem (by omega)]; rfl
    · have := congrArg (fun l => l[j]?) ht
      simp only [List.getElem?_take, hj, if_true] at this
      rw [Nat.zero_add, cell_of hg, ← this]
      simp
/-- The first k are left out. -/
theorem WOwn.drop {g off n cap : Nat} (h : WOwn R w (.slice (some ⟨g, off, none⟩) n cap) xs) (k : Nat) (hk : k ≤ xs.length) : WOwn R w (.slice (some ⟨g, off + k * R.m, none⟩) (n - k) (cap - k)) (xs.drop k) := by
  rcases h with ⟨e, _⟩ | ⟨g', off', cap', e, h1, h2, hg, h3, h4, h5⟩
  · cases e
  · injection e with e1 e2 e3
    injection e1 with e1
    injection e1 with e1 e4 _
    subst e1; subst e2; subst e3; subst e4
    have hm : ∀ a, k ≤ a → k * R.m + (a - k) * R.m = a * R.m := fun a ha => by rw [← Nat.add_mul]; congr 1; omega
    refine .inr ⟨g, off + k * R.m, cap - k, by rw [List.length_drop], by rw [List.length_drop]; omega, by omega, hg, fun j hj => ?_, h4, fun j hj => ?_⟩
    · rw [Nat.add_assoc]
      have := hm cap (by omega)
      exact h3 _ (by omega)
    · rw [List.length_drop] at hj
      have := hm xs.length hk
      rw [Nat.add_assoc, h5 _ (by omega)]
      have e : R.flat xs = R.flat (xs.take k) ++ R.flat (xs.drop k) := by rw [← R.flat_append, List.take_append_drop]
      have hl : (R.flat (xs.take k)).length = k * R.m := by rw [R.flat_length, List.length_take, Nat.min_eq_left hk]
      rw [e, List.getElem?_append_right (by omega), hl]
      congr 1
      omega
end
section
variable {α : Type} {R : Rec α} {w w' : World} {v : Value} {xs : List α}
/-- A row of records read from the k-th on; m of them. -/
theorem RdG.sub {b off n cap : Nat} (h : RdG R w (.slice (some ⟨b, off, none⟩) n cap) xs) (k m c : Nat) (hk : k + m ≤ xs.length) : RdG R w (.slice (some ⟨b, off + k * R.m, none⟩) m c) ((xs.drop k).take m) := by
  have hl : ((xs.drop k).take m).length = m := by rw [List.length_take, List.length_drop]; omega
  obtain ⟨a, cap', e, hle, _, hc⟩ := h
  injection e with e1 e2 e3
  subst e1
  refine ⟨some ⟨b, off + k * R.m, none⟩, c, by rw [hl], by rw [hl]; omega, (fun e => by cases e), fun h0 => ?_⟩
  rw [hl] at h0
  obtain ⟨b', off', e, hb, hcell⟩ := hc (by omega)
  injection e with e
  injection e with e1 e2 _
  subst e1; subst e2
  refine ⟨b, off + k * R.m, rfl, hb, fun i hi j hj => ?_⟩
  rw [hl] at hi
  have := hcell (k + i) (by omega) j hj
  rw [Nat.add_mul, ← Nat.add_assoc] at this
  rw [this, List.getElem_take, List.getElem_drop]
/-- .. and all behind it. -/
theorem RdG.rest {b off n cap : Nat} (h : RdG R w (.slice (some ⟨b, off, none⟩) n cap) xs) (k c : Nat) (hk : k ≤ xs.length) (hn : n = xs.length) : RdG R w (.slice (some ⟨b, off + k * R.m, none⟩) (n - k) c) (xs.drop k) := by
  have := h.sub k (n - k) c (by omega)
  rwa [List.take_of_length_le (by rw [List.length_drop]; omega)] at this
end

/-- A window of records, as a thing in memory. -/
def winT {α : Type} (R : Rec α) (v : Value) (xs : List α) : Thing where
  is w S := S = Blk v ∧ WOwn R w v xs
  low := by rintro w S ⟨rfl, h⟩ j hj; exact h.low j hj
  stay := by rintro w w' S T ⟨rfl, h⟩ hf hd; exact ⟨rfl, h.frame hf hd⟩
section
variable {α : Type} {R : Rec α} {w0 w w' : World} {L : List Thing} {v v' : Value} {xs : List α}
theorem Sep.win (h : Sep w0 w L) (i : Nat) (hi : L[i]? = some (winT R v xs)) : WOwn R w v xs := let ⟨_, h⟩ := h.at i hi; h.2
theorem Sep.rdWin (h : Sep w0 w L) (i : Nat) (hi : L[i]? = some (winT R v xs)) : RdG R w v xs := (h.win i hi).rd
theorem Sep.nilWin (h : Sep w0 w L) (R : Rec α) : Sep w0 w (winT R (.slice none 0 0) [] :: L) :=
  h.bare ⟨funext fun j => by simp [Blk, Value.ownBlock], WOwn.nil R w⟩
theorem Sep.winOf {E : TypeId} (h : Sep w0 w L) (i : Nat) (hi : L[i]? = some (recT R E v xs)) : Sep w0 w (L.set i (winT R v xs)) :=
  h.swap i hi fun S hS => ⟨S, ⟨hS.1, WOwn.ofOwn hS.2⟩, fun _ h => h⟩
theorem Sep.winDrop {g off n cap : Nat} (h : Sep w0 w L) (i : Nat) (hi : L[i]? = some (winT R (.slice (some ⟨g, off, none⟩) n cap) xs)) (k : Nat) (hk : k ≤ xs.length) :
    Sep w0 w (L.set i (winT R (.slice (some ⟨g, off + k * R.m, none⟩) (n - k) (cap - k)) (xs.drop k))) :=
  h.swap i hi fun S hS => ⟨S, ⟨by rw [hS.1]; rfl, hS.2.drop k hk⟩, fun _ h => h⟩
end
theorem Fr.setCells (g : Nat) : ∀ (vs : List Value) (o : Nat) (w : World), Fr (· = g) w (w.setCells g o vs)
  | [], _, w => Fr.refl _ w
  | v :: r, o, w => (Fr.set1 w g o v).trans (Fr.setCells g r (o + 1) _) (fun _ _ h => h)

section
variable {P : Program} {w0 w : World} {L : List Thing} {α : Type}
/-- 's = append(s, x)' of records, s a window: ONE MORE; x lies in block B. -/
theorem wpList_appWin {ops : Array Oper} {rest : List Oper} {o : Oper} {a : Act} {Q : Exit → Act → World → Prop} (R : Rec α) (hgd : o.guard = none) (s x : Operand) (t : TypeId)
    (ho : o.op = .call { callee := .builtin .append, args := #[s, x], argTypes := #[t, t] })
    (e : TypeId) (i : TypeInfo) (z : Value) (bytes : Nat) (ht : P.underlying t = some (.slice e)) (hi : P.info? e = some i) (hz : i.zero = some z)
    (hsize : i.size = R.m) (hby : i.bytes = bytes) (hzs : z.cells.size = R.m)
    (v : Value) (xs : List α) (q : α) (hsep : Sep w0 w L) (j : Nat) (hj : L[j]? = some (winT R v xs)) (B : Nat) (cs : Array Value) (hcs : cs = (R.cells q).toArray) (hB : w.heap[B]? = some (.cells cs e (0, 0)))
    (hs : a.eval s = v) (hx : a.eval x = .slice (some ⟨B, 0, none⟩) 1 1)
    (h63 : xs.length + 1 ≤ maxLen) (hbytes : (xs.length + 1) * bytes ≤ 140737488355328)
    (h : ∀ v' w', Sep w0 w' (L.set j (winT R v' (xs ++ [q]))) → Hid (∃ g off cap, v' = .slice (some ⟨g, off, none⟩) (xs.length + 1) cap ∧ xs.length + 1 ≤ cap) → wpList P ops Q rest (a.put o.dst v') w') :
    wpList P ops Q (o :: rest) a w := by
  subst hcs
  have hqc : (R.cells q).length = 1 * R.m := by rw [R.len, Nat.one_mul]
  have hnews : ∀ j u, (R.cells q)[j]? = some u → w.cell? ((⟨B, 0, none⟩ : Addr).add j) = some u := by
    intro j u hj
    have hadd : (⟨B, 0, none⟩ : Addr).add j = ⟨B, j, none⟩ := by unfold Addr.add; split <;> simp_all
    rw [hadd, cell_of hB]
    simpa using hj
  have key : ∃ v' w', (Builtin.append_ #[t, t] o.type #[v, .slice (some ⟨B, 0, none⟩) 1 1]).run P w = .ok v' w' ∧ Sep w0 w' (L.set j (winT R v' (xs ++ [q]))) ∧ ∃ g off cap, v' = .slice (some ⟨g, off, none⟩) (xs.length + 1) cap ∧ xs.length + 1 ≤ cap := by
    have grown : ∀ v' w', w'.ownsRow w.heap.size e R.m v' (xs.length + 1) (R.flat xs ++ R.cells q) → Fr (fun _ => False) w w' → Sep w0 w' (L.set j (winT R v' (xs ++ [q]))) ∧ ∃ g off cap, v' = .slice (some ⟨g, off, none⟩) (xs.length + 1) cap ∧ xs.length + 1 ≤ cap := by
      intro v' w' ho hf
      have hfl : R.flat (xs ++ [q]) = R.flat xs ++ R.cells q := by simp [Rec.flat]
      have hown : ROwn R e w' v' (xs ++ [q]) := by
        unfold ROwn
        rw [hfl, List.length_append]
        refine ⟨ho.1, ?_⟩
        rcases ho.2 with hn | ⟨g, cap, cur, h1, _, h2⟩
        · exact .inl hn
        · exact .inr ⟨g, cap, cur, h1, Nat.zero_le _, h2⟩
      refine ⟨hsep.turn j hj fun S hS => ⟨Blk v', ⟨rfl, WOwn.ofOwn hown⟩, hf.mono (fun _ _ f => f.elim), fun k hk => .inr ?_⟩, ?_⟩
      · rcases ho.2 with ⟨rfl, _⟩ | ⟨g, cap, cur, rfl, h1, _⟩
        · simp [Blk, Value.ownBlock] at hk
        · simp only [Blk, Value.ownBlock, Option.some.injEq] at hk
          omega
      · rcases ho.2 with ⟨_, h0⟩ | ⟨g, cap, cur, h1, _, _, h2, _⟩
        · omega
        · exact ⟨g, 0, cap, h1, h2⟩
    rcases hsep.win j hj with ⟨rfl, rfl⟩ | ⟨g, off, cap, rfl, h1, h2, hg, h3, h4, h5⟩
    · obtain ⟨v', w', hr, ho, hgr, _⟩ := run_append_own (P := P) w w.heap.size t o.type e i z R.m bytes ht hi hz hsize hby hzs R.pos (.slice none 0 0) 0 [] (World.ownsRow_nil w _ e R.m) ⟨B, 0, none⟩ 1 1 (R.cells q) hqc hnews (R.one q) (by simpa using h63) (by simpa using hbytes) (Nat.le_refl _)
      exact ⟨v', w', hr, grown v' w' (by simpa [Rec.flat] using ho) (Fr.grown hgr (fun k hk => by simp [Value.ownBlock] at hk))⟩
    · by_cases hroom : xs.length + 1 ≤ cap
      · have hcm : (xs.length + 1) * R.m ≤ cap * R.m := Nat.mul_le_mul_right _ hroom
        rw [Nat.add_mul, Nat.one_mul] at hcm
        have hr := run_append_room_cells (P := P) w t o.type e i ht hi g off xs.length cap ⟨B, 0, none⟩ 1 1 (R.cells q) (by rw [hsize]; exact hqc) hnews (R.one q) hroom
          (fun j hj => by rw [R.len] at hj; rw [hsize, Nat.add_assoc]; exact h3 _ (by omega)) (fun j _ => h4 _)
        rw [hsize] at hr
        have hin : ∀ j, j < (R.cells q).length → (w.cell? ⟨g, off + xs.length * R.m + j, none⟩).isSome = true := fun j hj => by rw [R.len] at hj; rw [Nat.add_assoc]; exact h3 _ (by omega)
        refine ⟨_, _, hr, ?_, g, off, cap, rfl, hroom⟩
        refine hsep.turn j hj fun S hS => ⟨Blk (.slice (some ⟨g, off, none⟩) (xs.length + 1) cap), ⟨rfl, .inr ⟨g, off, cap, by rw [List.length_append]; rfl, by rw [List.length_append]; exact hroom, h2, Nat.lt_of_lt_of_le hg (Fr.setCells g _ _ w).size, fun k hk => ?_, fun k => by rw [World.frozen?_setCells]; exact h4 k, fun k hk => ?_⟩⟩, ?_, fun k hk => .inl ?_⟩
        · by_cases hlo : k < xs.length * R.m
          · rw [World.cell?_setCells_out _ _ _ _ _ (fun _ _ => Or.inl (by dsimp only; omega))]; exact h3 k hk
          · by_cases hhi : k < xs.length * R.m + R.m
            · have := World.cell?_setCells_in g (R.cells q) (off + xs.length * R.m) w hin (k - xs.length * R.m) (by rw [R.len]; omega)
              rw [show off + xs.length * R.m + (k - xs.length * R.m) = off + k by omega] at this
              rw [this]; rfl
            · rw [World.cell?_setCells_out _ _ _ _ _ (fun _ _ => Or.inr (by rw [R.len]; dsimp only; omega))]; exact h3 k hk
        · rw [List.length_append, List.length_singleton, Nat.add_mul, Nat.one_mul] at hk
          have hfl : R.flat (xs ++ [q]) = R.flat xs ++ R.cells q := by simp [Rec.flat]
          have hll := R.flat_length xs
          rw [hfl]
          by_cases hlo : k < xs.length * R.m
          · rw [World.cell?_setCells_out _ _ _ _ _ (fun _ _ => Or.inl (by dsimp only; omega)), h5 k hlo, List.getElem?_append_left (by omega)]
          · have hk2 : k - xs.length * R.m < (R.cells q).length := by rw [R.len]; omega
            have := World.cell?_setCells_in g (R.cells q) (off + xs.length * R.m) w hin (k - xs.length * R.m) hk2
            rw [show off + xs.length * R.m + (k - xs.length * R.m) = off + k by omega] at this
            rw [this, List.getElem?_append_right (by omega), hll, List.getElem?_eq_getElem hk2]
        · rw [hS.1]
          exact (Fr.setCells g _ _ w).mono (fun k _ e => by rw [e]; rfl)
        · rw [hS.1]; exact hk
      · obtain ⟨v', w', hr, ho, hgr⟩ := run_append_arg_grows (P := P) w t o.type e i z R.m bytes ht hi hz hsize hby hzs R.pos ⟨g, off, none⟩ xs.length cap (R.flat xs) (R.flat_length xs)
          (fun k u hu => by
            have hk : k < xs.length * R.m := by have := (List.getElem?_eq_some_iff.1 hu).1; rwa [R.flat_length] at this
            rw [Addr.add_lit]; rw [h5 k hk]; exact hu) ⟨B, 0, none⟩ 1 1 (R.cells q) hqc hnews (by omega) h63 hbytes
        exact ⟨v', w', hr, grown v' w' ho (Fr.grown hgr (fun k hk => by cases hk))⟩
  obtain ⟨v', w', hr, hsep', hsh⟩ := key
  refine wpList_plain hgd fun K hK => ?_
  unfold Oper.wp execOp
  simp only [ho, resolve, invoke, builtin, Sem.run_bind, Sem.run_pure, Result.andThen_ok, List.map_toArray, List.map_cons, List.map_nil, hs, hx, hr]
  exact hK _ _ (h v' w' hsep' (Lib.hid hsh))
end
end Go.Mem
namespace Go.Mem
open Go Go.RowKit

section
variable {α : Type} {R : Rec α} {w w' : World} {xs : List α}
theorem Rec.flat_take (R : Rec α) (xs : List α) (k : Nat) (hk : k ≤ xs.length) (j : Nat) (hj : j < k * R.m) : (R.flat (xs.take k))[j]? = (R.flat xs)[j]? := by
  have e : R.flat xs = R.flat (xs.take k) ++ R.flat (xs.drop k) := by rw [← R.flat_append, List.take_append_drop]
  have hl : (R.flat (xs.take k)).length = k * R.m := by rw [R.flat_length, List.length_take, Nat.min_eq_left hk]
  rw [e, List.getElem?_append_left (by omega)]
theorem Rec.flat_setG (R : Rec α) : ∀ (xs : List α) (k : Nat) (q : α) (j : Nat), k < xs.length → (R.flat (xs.set k q))[j]? = if k * R.m ≤ j ∧ j < k * R.m + R.m then (R.cells q)[j - k * R.m]? else (R.flat xs)[j]?
  | [], k, _, _, h => by simp at h
  | x :: t, 0, q, j, _ => by
    simp only [List.set_cons_zero, Rec.flat, List.flatMap_cons, Nat.zero_mul, Nat.zero_add, Nat.sub_zero, Nat.zero_le, true_and]
    by_cases hj : j < R.m
    · rw [if_pos hj, List.getElem?_append_left (by rw [R.len]; exact hj)]
    · rw [if_neg hj, List.getElem?_append_right (by rw [R.len]; omega), List.getElem?_append_right (by rw [R.len]; omega), R.len, R.len]
  | x :: t, k + 1, q, j, h => by
    have ih := Rec.flat_setG R t k q (j - R.m) (by simpa using h)
    simp only [List.set_cons_succ, Rec.flat, List.flatMap_cons] at ih ⊢
    have hm : (k + 1) * R.m = k * R.m + R.m := by rw [Nat.add_mul, Nat.one_mul]
    by_cases hj : j < R.m
    · rw [List.getElem?_append_left (by rw [R.len]; exact hj), List.getElem?_append_left (by rw [R.len]; exact hj), if_neg (by omega)]
    · rw [List.getElem?_append_right (by rw [R.len]; omega), List.getElem?_append_right (by rw [R.len]; omega), R.len, ih]
      by_cases hq : k * R.m ≤ j - R.m ∧ j - R.m < k * R.m + R.m
      · rw [if_pos hq, if_pos (by omega), show j - R.m - k * R.m = j - (k + 1) * R.m by omega]
      · rw [if_neg hq, if_neg (by omega)]
theorem WOwn.setRec {g off n cap : Nat} (h : WOwn R w (.slice (some ⟨g, off, none⟩) n cap) xs) (k : Nat) (hk : k < xs.length) (q : α) : WOwn R (w.setCells g (off + k * R.m) (R.cells q)) (.slice (some ⟨g, off, none⟩) n cap) (xs.set k q) := by
  rcases h with ⟨e, _⟩ | ⟨g', off', cap', e, h1, h2, hg, h3, h4, h5⟩
  · cases e
  · injection e with e1 e2 e3
    injection e1 with e1
    injection e1 with e1 e4 _
    subst e1; subst e2; subst e3; subst e4
    have hkm : k * R.m + R.m ≤ xs.length * R.m := by
      have : (k + 1) * R.m ≤ xs.length * R.m := Nat.mul_le_mul_right _ hk
      rwa [Nat.add_mul, Nat.one_mul] at this
    have hcm : xs.length * R.m ≤ cap * R.m := Nat.mul_le_mul_right _ h1
    have hin : ∀ j, j < (R.cells q).length → (w.cell? ⟨g, off + k * R.m + j, none⟩).isSome = true := fun j hj => by rw [R.len] at hj; rw [Nat.add_assoc]; exact h3 _ (by omega)
    have at_ : ∀ j, j < cap * R.m → (w.setCells g (off + k * R.m) (R.cells q)).cell? ⟨g, off + j, none⟩ = if k * R.m ≤ j ∧ j < k * R.m + R.m then (R.cells q)[j - k * R.m]? else w.cell? ⟨g, off + j, none⟩ := fun j hj => by
      by_cases hq : k * R.m ≤ j ∧ j < k * R.m + R.m
      · rw [if_pos hq]
        have hj2 : j - k * R.m < (R.cells q).length := by rw [R.len]; omega
        have := World.cell?_setCells_in g (R.cells q) (off + k * R.m) w hin (j - k * R.m) hj2
        rw [show off + k * R.m + (j - k * R.m) = off + j by omega] at this
        rw [this, List.getElem?_eq_getElem hj2]
      · rw [if_neg hq, World.cell?_setCells_out _ _ _ _ _ (fun _ _ => by rw [R.len]; dsimp only; omega)]
    refine .inr ⟨g, off, cap, by rw [List.length_set], by rw [List.length_set]; exact h1, h2, Nat.lt_of_lt_of_le hg (Fr.setCells g _ _ w).size, fun j hj => ?_, fun j => by rw [World.frozen?_setCells]; exact h4 j, fun j hj => ?_⟩
    · rw [at_ j hj]
      split
      · rw [List.getElem?_eq_getElem (by rw [R.len]; omega)]; rfl
      · exact h3 j hj
    · rw [List.length_set] at hj
      rw [at_ j (by omega), R.flat_setG xs k q j hk]
      split
      · rfl
      · exact h5 j hj
theorem WOwn.take {g off n cap : Nat} (h : WOwn R w (.slice (some ⟨g, off, none⟩) n cap) xs) (k : Nat) (hk : k ≤ xs.length) : WOwn R w (.slice (some ⟨g, off, none⟩) k cap) (xs.take k) := by
  rcases h with ⟨e, _⟩ | ⟨g', off', cap', e, h1, h2, hg, h3, h4, h5⟩
  · cases e
  · injection e with e1 e2 e3
    injection e1 with e1
    injection e1 with e1 e4 _
    subst e1; subst e2; subst e3; subst e4
    have hl : (xs.take k).length = k := by rw [List.length_take, Nat.min_eq_left hk]
    have hkm : k * R.m ≤ xs.length * R.m := Nat.mul_le_mul_right _ hk
    refine .inr ⟨g, off, cap, by rw [hl], by rw [hl]; omega, h2, hg, h3, h4, fun j hj => ?_⟩
    rw [hl] at hj
    rw [h5 j (by omega), R.flat_take xs k hk j hj]
end
section
variable {α : Type} {R : Rec α} {w0 w : World} {L : List Thing} {xs : List α}
theorem Sep.setRecW {g off n cap : Nat} (h : Sep w0 w L) (i : Nat) (hi : L[i]? = some (winT R (.slice (some ⟨g, off, none⟩) n cap) xs)) (k : Nat) (hk : k < xs.length) (q : α) :
    Sep w0 (w.setCells g (off + k * R.m) (R.cells q)) (L.set i (winT R (.slice (some ⟨g, off, none⟩) n cap) (xs.set k q))) :=
  h.turn i hi fun S hS => ⟨S, ⟨hS.1, hS.2.setRec k hk q⟩, by rw [hS.1]; exact (Fr.setCells g _ _ w).mono (fun j _ e => by rw [e]; rfl), fun j hj => .inl hj⟩
theorem Sep.winTake {g off n cap : Nat} (h : Sep w0 w L) (i : Nat) (hi : L[i]? = some (winT R (.slice (some ⟨g, off, none⟩) n cap) xs)) (k : Nat) (hk : k ≤ xs.length) :
    Sep w0 w (L.set i (winT R (.slice (some ⟨g, off, none⟩) k cap) (xs.take k))) :=
  h.swap i hi fun S hS => ⟨S, ⟨by rw [hS.1]; rfl, hS.2.take k hk⟩, fun _ h => h⟩
end
section
variable {P : Program} {w0 w : World} {L : List Thing} {α : Type}
/-- 'clear(s[k:])', s a window: those ahead of the k-th are as they were. -/
theorem wpList_clearWin {ops : Array Oper} {rest : List Oper} {o : Oper} {a : Act} {Q : Exit → Act → World → Prop} (R : Rec α) (hgd : o.guard = none) (s : Operand) (t e : TypeId)
    (ho : o.op = .call { callee := .builtin .clear, args := #[s], argTypes := #[t] }) (z : Value) (ht : P.underlying t = some (.slice e)) (hz : ∀ w, (zeroValue e).run P w = .ok z w) (d : α) (hzc : z.cells = (R.cells d).toArray)
    (g off n cap : Nat) (xs : List α) (hsep : Sep w0 w L) (j : Nat) (hj : L[j]? = some (winT R (.slice (some ⟨g, off, none⟩) n cap) xs)) (k c2 n2 : Nat) (ad : Addr) (hs : a.eval s = .slice (some ad) n2 c2) (hn2 : n2 = xs.length - k) (had : n2 ≠ 0 → ad = ⟨g, off + k * R.m, none⟩) (hk : k ≤ xs.length)
    (h : ∀ w', Sep w0 w' (L.set j (winT R (.slice (some ⟨g, off, none⟩) k cap) (xs.take k))) → wpList P ops Q rest (a.put o.dst (.tuple #[])) w') :
    wpList P ops Q (o :: rest) a w := by
  have key : ∃ w', (Builtin.clear_ #[t] o.type #[.slice (some ad) n2 c2]).run P w = .ok (.tuple #[]) w' ∧ Sep w0 w' (L.set j (winT R (.slice (some ⟨g, off, none⟩) k cap) (xs.take k))) := by
    by_cases h0 : n2 = 0
    · subst h0
      exact ⟨w, by simp [Builtin.clear_, run_underlying ht], hsep.winTake j hj k hk⟩
    · have ea := had h0
      subst ea
      have hw := hsep.win j hj
      rcases hw with ⟨e, _⟩ | ⟨g', off', cap', e, h1, h2, hg, h3, h4, h5⟩
      · cases e
      · injection e with e1 e2 e3
        injection e1 with e1
        injection e1 with e1 e4 _
        subst e1; subst e2; subst e3; subst e4
        have hsz : (Builtin.zeroCells z.cells n2).toList.length = n2 * R.m := by
          rw [Array.length_toList, size_zeroCells, hzc, List.size_toArray, R.len]
        have hone : ∀ v ∈ (Builtin.zeroCells z.cells n2).toList, v.oneCell' = true := by
          intro v hv
          simp only [Builtin.zeroCells, Array.toList_map, Array.toList_range, List.mem_map, List.mem_range] at hv
          obtain ⟨i, _, rfl⟩ := hv
          rw [hzc]
          have hp := R.pos
          have hi : i % (R.cells d).toArray.size < (R.cells d).toArray.size := by rw [List.size_toArray, R.len]; exact Nat.mod_lt _ hp
          rw [getElem!_pos (R.cells d).toArray _ hi]
          exact R.one d _ (by simp)
        have hmul : k * R.m + n2 * R.m = xs.length * R.m := by rw [← Nat.add_mul]; congr 1; omega
        have hcm : xs.length * R.m ≤ cap * R.m := Nat.mul_le_mul_right _ h1
        have hst := run_storeCells_cells (P := P) g (off + k * R.m) (Builtin.zeroCells z.cells n2).toList 0 w
          (fun i hi => by rw [hsz] at hi; rw [Nat.add_zero, Nat.add_assoc]; exact h3 _ (by omega)) (fun i _ => h4 _) hone
        rw [Nat.add_zero] at hst
        obtain ⟨m, rfl⟩ : ∃ m, n2 = m + 1 := ⟨n2 - 1, by omega⟩
        refine ⟨w.setCells g (off + k * R.m) (Builtin.zeroCells z.cells (m + 1)).toList, by simp [Builtin.clear_, run_underlying ht, hz, hst], ?_⟩
        have hin : ∀ i, i < (Builtin.zeroCells z.cells (m + 1)).toList.length → (w.cell? ⟨g, off + k * R.m + i, none⟩).isSome = true := fun i hi => by rw [hsz] at hi; rw [Nat.add_assoc]; exact h3 _ (by omega)
        have hl : (xs.take k).length = k := by rw [List.length_take, Nat.min_eq_left hk]
        refine hsep.turn j hj fun S hS => ⟨S, ⟨by rw [hS.1]; rfl, .inr ⟨g, off, cap, by rw [hl], by rw [hl]; omega, h2, Nat.lt_of_lt_of_le hg (Fr.setCells g _ _ w).size, fun i hi => ?_, fun i => by rw [World.frozen?_setCells]; exact h4 i, fun i hi => ?_⟩⟩, by rw [hS.1]; exact (Fr.setCells g _ _ w).mono (fun j _ e => by rw [e]; rfl), fun j hj => .inl hj⟩
        · by_cases hq : k * R.m ≤ i ∧ i < k * R.m + (m + 1) * R.m
          · have hi2 : i - k * R.m < (Builtin.zeroCells z.cells (m + 1)).toList.length := by rw [hsz]; omega
            have := World.cell?_setCells_in g _ (off + k * R.m) w hin (i - k * R.m) hi2
            rw [show off + k * R.m + (i - k * R.m) = off + i by omega] at this
            rw [this]; rfl
          · rw [World.cell?_setCells_out _ _ _ _ _ (fun _ _ => by rw [hsz]; dsimp only; omega)]; exact h3 i hi
        · rw [hl] at hi
          rw [World.cell?_setCells_out _ _ _ _ _ (fun _ _ => by rw [hsz]; dsimp only; omega), h5 i (by omega), R.flat_take xs k hk i hi]
  obtain ⟨w', hr, hsep'⟩ := key
  refine wpList_plain hgd fun K hK => ?_
  unfold Oper.wp execOp
  simp only [ho, resolve, invoke, builtin, Sem.run_bind, Sem.run_pure, Result.andThen_ok, List.map_toArray, List.map_cons, List.map_nil, hs, hr]
  exact hK _ _ (h w' hsep')
end
end Go.Mem
