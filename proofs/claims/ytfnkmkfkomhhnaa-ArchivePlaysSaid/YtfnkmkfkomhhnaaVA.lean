/-
  Rounds as they lie; an archive in memory; may, own, New, put, No.
-/
import Derived.Test.YtfnkmkfkomhhnaaCPlain
import Derived.Test.YtfnkmkfkomhhnaaObj
import Derived.Test.YtfnkmkfkomhhnaaObj2
import Derived.Test.YtfnkmkfkomhhnaaCW5
import Derived.Test.YtfnkmkfkomhhnaaMix2
/-
  Rounds and what an archive keeps, in plain words; things in memory that hold them.
-/
namespace Go.ArchP
open Go Go.RowKit Go.Mem Go.NetP Go.CertP

/-- A round as it lies in cells. -/
structure Ro where
  no : Int
  day : Int
  comp : Bool
  ai : Option Addr
  ci : Nat
  ids : List Int
  n : Int
  ae : Option Addr
  ce : Nat
  es : List Ed
  af : Option Addr
  cf : Nat
  fl : List Int
  ap : Option Addr
  cp : Nat
  pot : List Int
instance : Inhabited Ro := ⟨⟨0, 0, false, none, 0, [], 0, none, 0, [], none, 0, [], none, 0, []⟩⟩
def roR : Rec Ro where
  m := 8
  cells r := [.int .u64 r.no, .int .i64 r.day, .bool r.comp, .slice r.ai r.ids.length r.ci, .int .i64 r.n, .slice r.ae r.es.length r.ce, .slice r.af r.fl.length r.cf, .slice r.ap r.pot.length r.cp]
  len _ := rfl
  one r u hu := by
    simp only [List.mem_cons, List.not_mem_nil, or_false] at hu
    rcases hu with rfl | rfl | rfl | rfl | rfl | rfl | rfl | rfl <;> rfl
  pos := by decide
/-- A round as a value. -/
def Ro.val (r : Ro) : Value := .agg #[.int .u64 r.no, .int .i64 r.day, .bool r.comp, .slice r.ai r.ids.length r.ci, .int .i64 r.n, .slice r.ae r.es.length r.ce, .slice r.af r.fl.length r.cf, .slice r.ap r.pot.length r.cp]
/-- What a round says, wherever it lies. -/
structure Co where
  no : Int
  day : Int
  comp : Bool
  ids : List Int
  n : Int
  es : List Ed
  fl : List Int
  pot : List Int
deriving DecidableEq
def Ro.co (r : Ro) : Co := ⟨r.no, r.day, r.comp, r.ids, r.n, r.es, r.fl, r.pot⟩
def mayC (r : Co) : Bool := checkB r.n r.es r.fl r.pot && decide (r.ids.length ≤ 64) && decide (0 ≤ r.day)
def sameB (a b : Ro) : Bool := decide (a.co = b.co)
def Ro.small (r : Ro) : Prop := r.ids.length ≤ 1000000 ∧ r.es.length ≤ 1000000 ∧ r.fl.length ≤ 1000000 ∧ r.pot.length ≤ 1000000
theorem may_small {r : Ro} (h : mayC r.co = true) : r.small := by
  unfold mayC at h
  have h1 := (Bool.and_eq_true _ _).mp h
  have h2 := (Bool.and_eq_true _ _).mp h1.1
  have h3 : r.ids.length ≤ 64 := of_decide_eq_true h2.2
  have h4 := h2.1
  unfold checkB at h4
  have h5 := (Bool.and_eq_true _ _).mp ((Bool.and_eq_true _ _).mp h4).1
  have h6 := (Bool.and_eq_true _ _).mp h5.1
  have h7 : (r.pot.length : Int) = r.n := of_decide_eq_true ((Bool.and_eq_true _ _).mp h5.2).2
  have h8 := flows_within h6.2
  unfold withinB at h8
  have h9 : r.fl.length = r.es.length := of_decide_eq_true ((Bool.and_eq_true _ _).mp ((Bool.and_eq_true _ _).mp h8).1).1
  have h10 := h6.1
  unfold rightB at h10
  have h11 := (Bool.and_eq_true _ _).mp ((Bool.and_eq_true _ _).mp ((Bool.and_eq_true _ _).mp h10).1).1
  have h12 : r.es.length ≤ 200 := of_decide_eq_true h11.2
  have h13 : r.n ≤ 40 := of_decide_eq_true ((Bool.and_eq_true _ _).mp h11.1).2
  refine ⟨by omega, by omega, by omega, by omega⟩
/-- The slices of a round read. -/
def Ro.Ok (w : World) (r : Ro) : Prop := Rd .u64 w (.slice r.ai r.ids.length r.ci) r.ids ∧ RdG edR w (.slice r.ae r.es.length r.ce) r.es ∧ Rd .i64 w (.slice r.af r.fl.length r.cf) r.fl ∧ Rd .i64 w (.slice r.ap r.pot.length r.cp) r.pot
theorem Ro.Ok.below {w w' : World} {r : Ro} (h : r.Ok w) (hb : Below w.heap.size w w') : r.Ok w' := ⟨h.1.below hb, h.2.1.below hb, h.2.2.1.below hb, h.2.2.2.below hb⟩
theorem Ro.Ok.sep {w0 w : World} {L : List Thing} {r : Ro} (h : r.Ok w0) (hs : Sep w0 w L) : r.Ok w := h.below hs.below
def Ro.blk (r : Ro) (k : Nat) : Prop := Blk (.slice r.ai r.ids.length r.ci) k ∨ Blk (.slice r.ae r.es.length r.ce) k ∨ Blk (.slice r.af r.fl.length r.cf) k ∨ Blk (.slice r.ap r.pot.length r.cp) k
/-- The slices of a round are rows of its own. -/
def Ro.Own (Tu Te Ti : TypeId) (w : World) (r : Ro) : Prop :=
  IOwn .u64 Tu w (.slice r.ai r.ids.length r.ci) r.ids ∧ ROwn edR Te w (.slice r.ae r.es.length r.ce) r.es ∧ IOwn .i64 Ti w (.slice r.af r.fl.length r.cf) r.fl ∧ IOwn .i64 Ti w (.slice r.ap r.pot.length r.cp) r.pot
section
variable {Tu Te Ti T : TypeId} {w w' w0 : World} {r : Ro} {L : List Thing}
theorem Ro.Own.ok (h : r.Own Tu Te Ti w) : r.Ok w := ⟨h.1.rd, h.2.1.rd, h.2.2.1.rd, h.2.2.2.rd⟩
theorem Ro.Own.low (h : r.Own Tu Te Ti w) {k : Nat} (hk : r.blk k) : k < w.heap.size := by
  rcases hk with q | q | q | q
  · exact h.1.low k q
  · exact (World.ownsRow.lt h.2.1 k q).2
  · exact h.2.2.1.low k q
  · exact h.2.2.2.low k q
theorem Ro.Own.frame {S : Nat → Prop} (h : r.Own Tu Te Ti w) (hf : Fr S w w') (hd : ∀ k, r.blk k → ¬ S k) : r.Own Tu Te Ti w' :=
  ⟨h.1.frame hf fun k q => hd k (.inl q), owns_frame h.2.1 hf fun k q => hd k (.inr (.inl q)), h.2.2.1.frame hf fun k q => hd k (.inr (.inr (.inl q))), h.2.2.2.frame hf fun k q => hd k (.inr (.inr (.inr q)))⟩
/-- A round with lists of its own. -/
def roT (Tu Te Ti : TypeId) (r : Ro) : Thing where
  is w S := (∀ k, S k ↔ r.blk k) ∧ r.Own Tu Te Ti w
  low := by rintro w S ⟨hS, h⟩ k hk; exact h.low ((hS k).1 hk)
  stay := by rintro w w' S U ⟨hS, h⟩ hf hd; exact ⟨hS, h.frame hf fun k q => hd k ((hS k).2 q)⟩
theorem Sep.ro {i : Nat} (h : Sep w0 w L) (hi : L[i]? = some (roT Tu Te Ti r)) : r.Ok w := by
  obtain ⟨_, _, h⟩ := h.at i hi
  exact h.ok
theorem Sep.roNew (h : Sep w0 w (intsT .i64 Ti (.slice r.ap r.pot.length r.cp) r.pot :: intsT .i64 Ti (.slice r.af r.fl.length r.cf) r.fl :: recT edR Te (.slice r.ae r.es.length r.ce) r.es :: intsT .u64 Tu (.slice r.ai r.ids.length r.ci) r.ids :: L)) :
    Sep w0 w (roT Tu Te Ti r :: L) := by
  obtain ⟨Ss, hl, ha, p⟩ := h
  match Ss, hl with
  | S0 :: S1 :: S2 :: S3 :: Ss, hl =>
    obtain ⟨e0, h0⟩ := ha 0 _ _ rfl rfl
    obtain ⟨e1, h1⟩ := ha 1 _ _ rfl rfl
    obtain ⟨e2, h2⟩ := ha 2 _ _ rfl rfl
    obtain ⟨e3, h3⟩ := ha 3 _ _ rfl rfl
    have q := ((p.fuse).fuse).fuse
    refine ⟨_ :: Ss, by simpa using hl, fun j C S hC hS => ?_, q⟩
    match j, hC, hS with
    | 0, hC, hS =>
      simp only [List.getElem?_cons_zero, Option.some.injEq] at hC hS
      subst hC; subst hS
      refine ⟨fun k => ?_, h3, h2, h1, h0⟩
      have q0 : S0 k ↔ Blk (.slice r.ap r.pot.length r.cp) k := by rw [e0]
      have q1 : S1 k ↔ Blk (.slice r.af r.fl.length r.cf) k := by rw [e1]
      have q2 : S2 k ↔ Blk (.slice r.ae r.es.length r.ce) k := by rw [e2]
      have q3 : S3 k ↔ Blk (.slice r.ai r.ids.length r.ci) k := by rw [e3]
      show (((S0 k ∨ S1 k) ∨ S2 k) ∨ S3 k) ↔ _ ∨ _ ∨ _ ∨ _
      rw [q0, q1, q2, q3, or_comm (a := _ ∨ _), or_comm (a := Blk _ k ∨ Blk _ k), or_comm (a := Blk (.slice r.ap _ _) k)]
    | j + 1, hC, hS => exact ha (j + 4) C S (by simpa using hC) (by simpa using hS)
/-- An archive in block b: four rounds with lists of their own, how many are kept, the last one's number. -/
def archT (Tu Te Ti T : TypeId) (b : Nat) (ks : List Ro) (n no : Int) : Thing where
  is w S := (∀ k, S k ↔ (k = b ∨ ∃ r ∈ ks, r.blk k)) ∧ w.heap[b]? = some (.cells (roR.flat ks ++ [Value.int .u64 n, Value.int .u64 no]).toArray T (0, 0)) ∧ ∀ r ∈ ks, ¬ r.blk b ∧ r.Own Tu Te Ti w
  low := by
    rintro w S ⟨hS, hb, h⟩ k hk
    rcases (hS k).1 hk with rfl | ⟨r, hr, q⟩
    · exact lt_of hb
    · exact (h r hr).2.low q
  stay := by
    rintro w w' S U ⟨hS, hb, h⟩ hf hd
    exact ⟨hS, (hf.block b (lt_of hb) (hd b ((hS b).2 (.inl rfl)))).trans hb, fun r hr => ⟨(h r hr).1, (h r hr).2.frame hf fun k q => hd k ((hS k).2 (.inr ⟨r, hr, q⟩))⟩⟩
theorem Sep.arch {i b : Nat} {ks : List Ro} {n no : Int} (h : Sep w0 w L) (hi : L[i]? = some (archT Tu Te Ti T b ks n no)) :
    w.heap[b]? = some (.cells (roR.flat ks ++ [Value.int .u64 n, Value.int .u64 no]).toArray T (0, 0)) ∧ ∀ r ∈ ks, r.Ok w := by
  obtain ⟨_, _, hb, h⟩ := h.at i hi
  exact ⟨hb, fun r hr => (h r hr).2.ok⟩
/-- A cell of a kept round. -/
theorem arch_cell {b : Nat} {ks : List Ro} {n no : Int} (hb : w.heap[b]? = some (.cells (roR.flat ks ++ [Value.int .u64 n, Value.int .u64 no]).toArray T (0, 0))) (i : Nat) (hi : i < ks.length) (j : Nat) (hj : j < 8) : w.cell? ⟨b, i * 8 + j, none⟩ = (roR.cells ks[i])[j]? := by
  have hl := roR.flat_length ks
  have h8 : roR.m = 8 := rfl
  rw [h8] at hl
  rw [cell_of hb, List.getElem?_toArray, List.getElem?_append_left (by omega)]
  exact roR.flat_get ks i hi j hj
theorem arch_n {b : Nat} {ks : List Ro} {n no : Int} (h4 : ks.length = 4) (hb : w.heap[b]? = some (.cells (roR.flat ks ++ [Value.int .u64 n, Value.int .u64 no]).toArray T (0, 0))) : w.cell? ⟨b, 32, none⟩ = some (.int .u64 n) ∧ w.cell? ⟨b, 33, none⟩ = some (.int .u64 no) := by
  have hl : (roR.flat ks).length = 32 := by rw [roR.flat_length, h4]; rfl
  refine ⟨?_, ?_⟩ <;> rw [cell_of hb, List.getElem?_toArray, List.getElem?_append_right (by omega), hl] <;> rfl
end
end Go.ArchP

/-
  What an archive keeps: a round put in its place, read, brought together. Plain lemmas.
-/
namespace Go.ArchP
open Go Go.RowKit Go.Mem Go.NetP Go.CertP

/-- How many are kept, with one more. -/
def cap4 (n : Int) : Int := if n + 1 ≤ 4 then n + 1 else 4
theorem cap4_le {n : Int} (h : 0 ≤ n ∧ n ≤ 4) : 0 ≤ cap4 n ∧ cap4 n ≤ 4 := by unfold cap4; split <;> omega
theorem flat_put : ∀ (ks : List Ro) (k : Nat) (r : Ro), k < ks.length → roR.flat (ks.set k r) =
    ((((((((roR.flat ks).set (k * 8) (.int .u64 r.no)).set (k * 8 + 1) (.int .i64 r.day)).set (k * 8 + 2) (.bool r.comp)).set (k * 8 + 3) (.slice r.ai r.ids.length r.ci)).set (k * 8 + 4) (.int .i64 r.n)).set (k * 8 + 5) (.slice r.ae r.es.length r.ce)).set (k * 8 + 6) (.slice r.af r.fl.length r.cf)).set (k * 8 + 7) (.slice r.ap r.pot.length r.cp)
  | [], k, _, h => by simp at h
  | x :: t, 0, r, _ => by simp [Rec.flat, roR]
  | x :: t, k + 1, r, h => by
    have ih := flat_put t k r (by simpa using h)
    have e : ∀ (l : List Value) (j : Nat) (u : Value), (roR.cells x ++ l).set ((k + 1) * 8 + j) u = roR.cells x ++ l.set (k * 8 + j) u := fun l j u => by
      have h8 : (roR.cells x).length = 8 := rfl
      rw [List.set_append_right _ _ (by rw [h8]; omega), h8, show (k + 1) * 8 + j - 8 = k * 8 + j by omega]
    have e0 : ∀ (l : List Value) (u : Value), (roR.cells x ++ l).set ((k + 1) * 8) u = roR.cells x ++ l.set (k * 8) u := fun l u => e l 0 u
    simp only [List.set_cons_succ, Rec.flat, List.flatMap_cons] at ih ⊢
    rw [ih]
    simp only [e, e0]

section
variable {Tu Te Ti T : TypeId} {w w' w0 w2 : World} {r : Ro} {L : List Thing}
theorem Sep.archNew {b : Nat} {ks : List Ro} {n no : Int} (h : Sep w0 w (cellsT b (roR.flat ks ++ [Value.int .u64 n, Value.int .u64 no]).toArray T :: L)) (hk : ∀ r ∈ ks, r = default) : Sep w0 w (archT Tu Te Ti T b ks n no :: L) := by
  have hd : ∀ r ∈ ks, ∀ k, ¬ r.blk k := fun r hr k q => by
    rw [hk r hr] at q
    rcases q with q | q | q | q <;> simp [default, Blk, Value.ownBlock] at q
  refine h.swap 0 rfl fun S hS => ⟨(fun k => k = b ∨ ∃ r ∈ ks, r.blk k), ⟨fun k => Iff.rfl, hS.2, fun r hr => ⟨hd r hr b, ?_⟩⟩, fun k q => ?_⟩
  · rw [hk r hr]
    exact ⟨IOwn.nil _ _ _, ROwn.nil _ _ _, IOwn.nil _ _ _, IOwn.nil _ _ _⟩
  · rcases q with q | ⟨r, hr, q⟩
    · rw [hS.1]; exact q
    · exact (hd r hr k q).elim
theorem Sep.archN {b : Nat} {ks : List Ro} {n no : Int} (h4 : ks.length = 4) (h : Sep w0 w L) (i : Nat) (hi : L[i]? = some (archT Tu Te Ti T b ks n no)) (m : Int) :
    Sep w0 (w.setCell ⟨b, 32, none⟩ (.int .u64 m)) (L.set i (archT Tu Te Ti T b ks m no)) := by
  have hl : (roR.flat ks).length = 32 := by rw [roR.flat_length, h4]; rfl
  refine h.turn i hi fun S hS => ⟨S, ⟨hS.1, cells_put hS.2.1 ?_, fun r hr => ⟨(hS.2.2 r hr).1, (hS.2.2 r hr).2.frame (Fr.setCell (S := (· = b)) _ _ _ rfl) fun k q e => (hS.2.2 r hr).1 (e ▸ q)⟩⟩, Fr.setCell _ _ _ ((hS.1 b).2 (.inl rfl)), fun j hj => .inl hj⟩
  rw [List.setIfInBounds_toArray, List.set_append_right _ _ (by omega), hl]
  rfl
theorem Sep.archNo {b : Nat} {ks : List Ro} {n no : Int} (h4 : ks.length = 4) (h : Sep w0 w L) (i : Nat) (hi : L[i]? = some (archT Tu Te Ti T b ks n no)) (m : Int) :
    Sep w0 (w.setCell ⟨b, 33, none⟩ (.int .u64 m)) (L.set i (archT Tu Te Ti T b ks n m)) := by
  have hl : (roR.flat ks).length = 32 := by rw [roR.flat_length, h4]; rfl
  refine h.turn i hi fun S hS => ⟨S, ⟨hS.1, cells_put hS.2.1 ?_, fun r hr => ⟨(hS.2.2 r hr).1, (hS.2.2 r hr).2.frame (Fr.setCell (S := (· = b)) _ _ _ rfl) fun k q e => (hS.2.2 r hr).1 (e ▸ q)⟩⟩, Fr.setCell _ _ _ ((hS.1 b).2 (.inl rfl)), fun j hj => .inl hj⟩
  rw [List.setIfInBounds_toArray, List.set_append_right _ _ (by omega), hl]
  rfl
/-- A round with lists of its own is put in place k. -/
theorem Sep.archPut {b : Nat} {ks : List Ro} {n no : Int} (h : Sep w0 w L) (i : Nat) (hi : L[i]? = some (archT Tu Te Ti T b ks n no)) (k1 : Sep w w2 [roT Tu Te Ti r]) (k : Nat) (hk : k < ks.length) :
    Sep w0 ((((((((w2.setCell ⟨b, k * 8, none⟩ (.int .u64 r.no)).setCell ⟨b, k * 8 + 1, none⟩ (.int .i64 r.day)).setCell ⟨b, k * 8 + 2, none⟩ (.bool r.comp)).setCell ⟨b, k * 8 + 3, none⟩ (.slice r.ai r.ids.length r.ci)).setCell ⟨b, k * 8 + 4, none⟩ (.int .i64 r.n)).setCell ⟨b, k * 8 + 5, none⟩ (.slice r.ae r.es.length r.ce)).setCell ⟨b, k * 8 + 6, none⟩ (.slice r.af r.fl.length r.cf)).setCell ⟨b, k * 8 + 7, none⟩ (.slice r.ap r.pot.length r.cp))
      (L.set i (archT Tu Te Ti T b (ks.set k r) n no)) := by
  obtain ⟨S, ⟨hS, hb, hr⟩, hu⟩ := h.use i hi
  obtain ⟨S1, ⟨hS1, how⟩, hfresh⟩ := k1.fresh 0 rfl
  have hbl : b < w.heap.size := lt_of hb
  have hnb : ¬ r.blk b := fun q => by have := hfresh b ((hS1 b).2 q); omega
  have hf0 : Fr (fun _ => False) w w2 := Fr.below k1.below
  have hb2 := (hf0.block b hbl (fun q => q)).trans hb
  have hl8 : (roR.flat ks).length = ks.length * 8 := roR.flat_length ks
  have fr : ∀ (W : World) (o : Nat) (u : Value), Fr (· = b) w2 W → Fr (· = b) w2 (W.setCell ⟨b, o, none⟩ u) := fun W o u q => q.trans (Fr.setCell (S := (· = b)) _ _ _ rfl) (fun _ _ q => q)
  have st : ∀ (W : World) (l : List Value) (o : Nat) (u : Value), o < l.length → W.heap[b]? = some (.cells (l ++ [Value.int .u64 n, Value.int .u64 no]).toArray T (0, 0)) → (W.setCell ⟨b, o, none⟩ u).heap[b]? = some (.cells (l.set o u ++ [Value.int .u64 n, Value.int .u64 no]).toArray T (0, 0)) := fun W l o u ho q => by
    refine cells_put q ?_
    rw [List.setIfInBounds_toArray, List.set_append_left _ _ ho]
  have hfr := fr _ (k * 8 + 7) (.slice r.ap r.pot.length r.cp) (fr _ (k * 8 + 6) (.slice r.af r.fl.length r.cf) (fr _ (k * 8 + 5) (.slice r.ae r.es.length r.ce) (fr _ (k * 8 + 4) (.int .i64 r.n) (fr _ (k * 8 + 3) (.slice r.ai r.ids.length r.ci) (fr _ (k * 8 + 2) (.bool r.comp) (fr _ (k * 8 + 1) (.int .i64 r.day) (fr _ (k * 8) (.int .u64 r.no) (Fr.refl _ _))))))))
  have hst := st _ _ (k * 8 + 7) (.slice r.ap r.pot.length r.cp) (by simp only [List.length_set]; omega) (st _ _ (k * 8 + 6) (.slice r.af r.fl.length r.cf) (by simp only [List.length_set]; omega) (st _ _ (k * 8 + 5) (.slice r.ae r.es.length r.ce) (by simp only [List.length_set]; omega) (st _ _ (k * 8 + 4) (.int .i64 r.n) (by simp only [List.length_set]; omega) (st _ _ (k * 8 + 3) (.slice r.ai r.ids.length r.ci) (by simp only [List.length_set]; omega) (st _ _ (k * 8 + 2) (.bool r.comp) (by simp only [List.length_set]; omega) (st _ _ (k * 8 + 1) (.int .i64 r.day) (by simp only [List.length_set]; omega) (st _ _ (k * 8) (.int .u64 r.no) (by omega) hb2)))))))
  rw [← flat_put ks k r hk] at hst
  refine hu _ _ (fun j => j = b ∨ ∃ q ∈ ks.set k r, q.blk j) ⟨fun _ => Iff.rfl, hst, fun q hq => ?_⟩ ⟨?_, fun j hj => ?_⟩
  · rcases List.mem_or_eq_of_mem_set hq with hq | rfl
    · exact ⟨(hr q hq).1, (((hr q hq).2.frame hf0 fun _ _ e => e).frame hfr fun j hj e => (hr q hq).1 (e ▸ hj))⟩
    · exact ⟨hnb, how.frame hfr fun j hj e => hnb (e ▸ hj)⟩
  · exact (hf0.mono (fun _ _ q => q.elim)).trans (hfr.mono (fun j _ e => e ▸ (hS b).2 (.inl rfl))) (fun _ _ q => q)
  · rcases hj with rfl | ⟨q, hq, hj⟩
    · exact .inl ((hS _).2 (.inl rfl))
    · rcases List.mem_or_eq_of_mem_set hq with hq | rfl
      · exact .inl ((hS j).2 (.inr ⟨q, hq, hj⟩))
      · exact .inr (hfresh j ((hS1 j).2 hj))
/-- Rounds with lists of their own. -/
def bagT (Tu Te Ti : TypeId) (rs : List Ro) : Thing where
  is w S := (∀ k, S k ↔ ∃ r ∈ rs, r.blk k) ∧ ∀ r ∈ rs, r.Own Tu Te Ti w
  low := by rintro w S ⟨hS, h⟩ k hk; obtain ⟨r, hr, q⟩ := (hS k).1 hk; exact (h r hr).low q
  stay := by rintro w w' S U ⟨hS, h⟩ hf hd; exact ⟨hS, fun r hr => (h r hr).frame hf fun k q => hd k ((hS k).2 ⟨r, hr, q⟩)⟩
theorem Sep.bag {i : Nat} {rs : List Ro} (h : Sep w0 w L) (hi : L[i]? = some (bagT Tu Te Ti rs)) : ∀ r ∈ rs, r.Ok w := by
  obtain ⟨_, _, h⟩ := h.at i hi
  exact fun r hr => (h r hr).ok
theorem Sep.bagNil (h : Sep w0 w L) : Sep w0 w (bagT Tu Te Ti [] :: L) := h.bare ⟨fun k => by simp, fun r hr => by simp at hr⟩
theorem Sep.bagAdd {rs : List Ro} (h : Sep w0 w (roT Tu Te Ti r :: bagT Tu Te Ti rs :: L)) : Sep w0 w (bagT Tu Te Ti (rs ++ [r]) :: L) := by
  obtain ⟨Ss, hl, ha, p⟩ := h
  match Ss, hl with
  | S0 :: S1 :: Ss, hl =>
    obtain ⟨e0, h0⟩ := ha 0 _ _ rfl rfl
    obtain ⟨e1, h1⟩ := ha 1 _ _ rfl rfl
    refine ⟨_ :: Ss, by simpa using hl, fun j C S hC hS => ?_, p.fuse⟩
    match j, hC, hS with
    | 0, hC, hS =>
      simp only [List.getElem?_cons_zero, Option.some.injEq] at hC hS
      subst hC; subst hS
      refine ⟨fun k => ?_, fun q hq => ?_⟩
      · show (S0 k ∨ S1 k) ↔ _
        rw [e0 k, e1 k]
        simp only [List.mem_append, List.mem_singleton, or_and_right, exists_or, exists_eq_left]
        exact or_comm
      · rcases List.mem_append.1 hq with hq | hq
        · exact h1 q hq
        · rw [List.mem_singleton.1 hq]; exact h0
    | j + 1, hC, hS => exact ha (j + 2) C S (by simpa using hC) (by simpa using hS)
theorem Sep.bagAdd1 {A : Thing} {rs : List Ro} (h : Sep w0 w (roT Tu Te Ti r :: A :: bagT Tu Te Ti rs :: L)) : Sep w0 w (A :: bagT Tu Te Ti (rs ++ [r]) :: L) := by
  obtain ⟨Ss, hl, ha, p⟩ := h
  match Ss, hl with
  | S0 :: S1 :: S2 :: Ss, hl =>
    obtain ⟨e0, h0⟩ := ha 0 _ _ rfl rfl
    obtain ⟨e2, h2⟩ := ha 2 _ _ rfl rfl
    have q : Parts w0 w (S0 :: S2 :: S1 :: Ss) := by
      refine ⟨fun i j C D hC hD hne => ?_, fun i C hC => ?_, p.below⟩
      · have f : ∀ (i : Nat) C, (S0 :: S2 :: S1 :: Ss)[i]? = some C → (S0 :: S1 :: S2 :: Ss)[if i = 1 then 2 else if i = 2 then 1 else i]? = some C := fun i C hC => by
          match i, hC with
          | 0, hC => exact hC
          | 1, hC => exact hC
          | 2, hC => exact hC
          | i + 3, hC => exact hC
        exact p.dis _ _ C D (f i C hC) (f j D hD) (by split <;> split <;> (try split) <;> (try split) <;> omega)
      · match i, hC with
        | 0, hC => exact p.rng 0 C hC
        | 1, hC => exact p.rng 2 C hC
        | 2, hC => exact p.rng 1 C hC
        | i + 3, hC => exact p.rng (i + 3) C hC
    have q2 := q.fuse
    refine ⟨S1 :: (fun k => S0 k ∨ S2 k) :: Ss, by simpa using hl, fun j C S hC hS => ?_, ?_⟩
    · match j, hC, hS with
      | 0, hC, hS => exact ha 1 C S hC hS
      | 1, hC, hS =>
        simp only [List.getElem?_cons_zero, List.getElem?_cons_succ, Option.some.injEq] at hC hS
        subst hC; subst hS
        refine ⟨fun k => ?_, fun q hq => ?_⟩
        · show (S0 k ∨ S2 k) ↔ _
          rw [e0 k, e2 k]
          simp only [List.mem_append, List.mem_singleton, or_and_right, exists_or, exists_eq_left]
          exact or_comm
        · rcases List.mem_append.1 hq with hq | hq
          · exact h2 q hq
          · rw [List.mem_singleton.1 hq]; exact h0
      | j + 2, hC, hS => exact ha (j + 3) C S (by simpa using hC) (by simpa using hS)
    · refine ⟨fun i j C D hC hD hne => ?_, fun i C hC => ?_, p.below⟩
      · have f : ∀ (i : Nat) C, (S1 :: (fun k => S0 k ∨ S2 k) :: Ss)[i]? = some C → ((fun k => S0 k ∨ S2 k) :: S1 :: Ss)[if i = 0 then 1 else if i = 1 then 0 else i]? = some C := fun i C hC => by
          match i, hC with
          | 0, hC => exact hC
          | 1, hC => exact hC
          | i + 2, hC => exact hC
        exact q2.dis _ _ C D (f i C hC) (f j D hD) (by split <;> split <;> (try split) <;> (try split) <;> omega)
      · match i, hC with
        | 0, hC => exact q2.rng 1 C hC
        | 1, hC => exact q2.rng 0 C hC
        | i + 2, hC => exact q2.rng (i + 2) C hC
end
end Go.ArchP

/-
  Package archive, walked: slices.Clone, own.
-/
namespace Go.Proofs.Ytfnkmkfkomhhnaa
open Go Go.RowKit Go.Mem Go.NetP Go.CertP Go.ArchP

theorem Try.infoU64v : (Try.prog.info? 27).map (fun i => (i.zero, i.size, i.bytes)) = some (some (.int .u64 0), 1, 8) := by kernel_rfl
theorem Try.infoEdv : (Try.prog.info? 70).map (fun i => (i.zero, i.size, i.bytes)) = some (some (.agg #[.int .i64 0, .int .i64 0, .int .i64 0, .int .i64 0]), 4, 32) := by kernel_rfl

set_option maxHeartbeats 1000000 in
theorem cloneU_any (v : Value) (fl : List Int) (w : World) (h : Rd .u64 w v fl) (hsm : fl.length ≤ 1000000) :
    Calls Try.prog 31 #[v] w fun en w' => ∃ u, en = .returned u ∧ Sep w w' [intsT .u64 27 u fl] := by
  obtain ⟨i0, hi0, hz0, hz1, hz2⟩ := info_parts Try.infoU64v
  obtain ⟨a, c, rfl⟩ := h.shape
  match a with
  | none =>
    have hf : fl = [] := by
      rcases Nat.eq_zero_or_pos fl.length with h0 | h0
      · exact List.eq_nil_of_length_eq_zero h0
      · obtain ⟨b, o, e, _⟩ := h.at 0 h0; cases e
    subst hf
    have hc : c = 0 := by
      obtain ⟨a', c', e, _, hn, _⟩ := h
      injection e with e1 e2 e3
      rw [e3]; exact hn e1.symm
    subst hc
    have hs := (Sep.start w).nilInts .u64 27
    have hnil := fun (W : World) => Lib.run_eql_slice_nil (P := Try.prog) W 31 27 none 0 0 0 0 Try.underlying31
    go_enter Try.func31, Try.ntmps31
    go_wp2_with fail
    go_ret
    exact ⟨_, rfl, hs⟩
  | some a =>
    have hs2 := (Sep.start w).litInts .u64 27 [] (by simp [maxLen])
    simp only [List.map_cons, List.map_nil, List.length_cons, List.length_nil, Nat.reduceAdd, World.size_alloc] at hs2
    have hnil := fun (W : World) => Lib.run_eql_slice_nil (P := Try.prog) W 31 27 (some a) fl.length c 0 0 Try.underlying31
    go_enter Try.func31, Try.ntmps31
    go_wp2_with (at_builtin; refine wpList_appRd rfl (.tmp 5) (.tmp 6) 31 rfl 27 i0 _ 8 Try.underlying31 hi0 hz0 hz1 hz2 rfl _ [] .u64 _ fl hs2 0 rfl (hs2.rd h) rfl rfl ?c3 ?c4 ?grow)
    case c3 => (try simp); (try simp only [maxLen]); (try omega)
    case c4 => (try simp); (try simp only [maxLen]); (try omega)
    case grow =>
      intro vo w4 hs3
      go_wp2_with fail
      go_ret
      exact ⟨_, rfl, by simpa using hs3⟩
set_option maxHeartbeats 1000000 in
theorem cloneE_any (v : Value) (xs : List Ed) (w : World) (h : RdG edR w v xs) (hsm : xs.length ≤ 1000000) :
    Calls Try.prog 32 #[v] w fun en w' => ∃ u, en = .returned u ∧ Sep w w' [recT edR 70 u xs] := by
  obtain ⟨i0, hi0, hz0, hz1, hz2⟩ := info_parts Try.infoEdv
  obtain ⟨a, c, rfl⟩ := h.shape
  rcases a with _ | a
  · have hx : xs = [] := by
      rcases Nat.eq_zero_or_pos xs.length with q | q
      · exact List.eq_nil_of_length_eq_zero q
      · obtain ⟨b, o, e, _⟩ := h.at 0 q; cases e
    have hc : c = 0 := by obtain ⟨_, _, e, _, hn, _⟩ := h; injection e with e1 e2 e3; subst e1; subst e3; exact hn rfl
    subst hx; subst hc
    have he := fun w : World => Lib.run_eql_slice_nil (P := Try.prog) w 32 70 none 0 0 0 0 Try.underlying32
    simp at he
    go_enter Try.func32, Try.ntmps32
    go_wp2_with fail
    go_ret
    exact ⟨_, rfl, (Sep.start w).nilRecs edR _⟩
  · have he := fun w : World => Lib.run_eql_slice_nil (P := Try.prog) w 32 70 (some a) xs.length c 0 0 Try.underlying32
    simp at he
    have hs2 := (Sep.start w).litRecs edR 70 [] (by simp [maxLen])
    simp only [List.length_nil, Rec.flat, List.flatMap_nil] at hs2
    go_enter Try.func32, Try.ntmps32
    go_wp2_with (at_builtin; refine wpList_appRdG edR rfl (.tmp 5) (.tmp 6) 32 rfl 70 i0 _ 32 Try.underlying32 hi0 hz0 hz1 hz2 rfl _ [] _ xs hs2 0 rfl (hs2.rdG h) rfl rfl ?c3 ?c4 ?grow)
    case c3 => (try simp); (try simp only [maxLen]); (try omega)
    case c4 => (try simp); (try simp only [maxLen]); (try omega)
    case grow =>
      intro v' w2 hs3
      (try simp only [List.set_cons_zero, List.nil_append] at hs3)
      clear he
      go_wp2_with fail
      go_ret
      exact ⟨_, rfl, hs3⟩
/-- A round with lists of its own. -/
abbrev ownT (r : Ro) : Thing := roT 27 70 2 r
set_option maxHeartbeats 4000000 in
theorem own_any (r : Ro) (w : World) (h : r.Ok w) (hsm : r.small) :
    Calls Try.prog 24 #[r.val] w fun en w' => ∃ r', r'.co = r.co ∧ en = .returned r'.val ∧ Sep w w' [ownT r'] := by
  obtain ⟨no, day, comp, ai, ci, ids, n, ae, ce, es, af, cf, fl, ap, cp, pot⟩ := r
  obtain ⟨h1, h2, h3, h4⟩ := h
  obtain ⟨m1, m2, m3, m4⟩ := hsm
  dsimp only [Ro.val] at *
  have hs := ((Sep.start w).newCells #[.int .u64 no, .int .i64 day, .bool comp, .slice ai ids.length ci, .int .i64 n, .slice ae es.length ce, .slice af fl.length cf, .slice ap pot.length cp] 39).newCells #[.int .u64 0, .int .i64 0, .bool false, .slice none 0 0, .int .i64 0, .slice none 0 0, .slice none 0 0, .slice none 0 0] 39
  simp only [World.size_alloc] at hs
  have n3 := cell_of (hs.cells 1 rfl) 3
  simp only [List.getElem?_toArray, List.getElem?_cons_zero, List.getElem?_cons_succ] at n3
  have n5 := cell_of (hs.cells 1 rfl) 5
  simp only [List.getElem?_toArray, List.getElem?_cons_zero, List.getElem?_cons_succ] at n5
  go_enter Try.func24, Try.ntmps24
  go_wp2_with fail
  replace hs := hs.drew
  have hCW := cell_of (hs.cells 1 rfl) 5
  simp only [List.getElem?_toArray, List.getElem?_cons_zero, List.getElem?_cons_succ] at hCW
  refine Mix.region2 11 [0, 0, 2, 1, 1, 1, 2, 1, 2, 0, 0, 2] (fun W : World => W.cell? ⟨w.heap.size, 5, none⟩ = some (.slice ae es.length ce)) (by kernel_rfl) (by kernel_rfl) hCW ?_
  simp only [List.zip_cons_cons, List.zip_nil_right, List.take_succ_cons, List.take_zero, List.drop_succ_cons, List.drop_zero]
  iterate 2 (refine Mix.step0 fun K hK => ?_; go_simp; (try (go_bits; try go_simp)); first | ((with_reducible refine hK _ _ ?_); clear hK K) | ((try (simp only [IntWalk.iteOmega]; try go_simp)); (try go_bits); (with_reducible refine hK _ _ ?_); clear hK K))
  refine Mix.step2n (by first | rfl | simp [Region.wanted, yielded]) fun K hK => ?_
  go_wp2_with fail
  refine (cloneU_any _ ids _ (hs.rd h1) m1).mono ?_
  rintro en w1 ⟨u, rfl, k1⟩
  obtain ⟨a1, c1, rfl⟩ := (k1.ints 0 rfl).shape
  replace hs := hs.join k1
  clear k1 n3 n5 hCW
  have hCW := cell_of (hs.cells 2 rfl) 5
  simp only [List.getElem?_toArray, List.getElem?_cons_zero, List.getElem?_cons_succ] at hCW
  go_wp2_with fail
  refine Mix.post_mk (C := (fun W : World => W.cell? ⟨w.heap.size, 5, none⟩ = some (.slice ae es.length ce))) (by first | exact hCW | exact HCW.out _) (hK _ _ ?_)
  clear hK K
  (refine Mix.step1 fun K hK => ?_; go_simp; (try (go_bits; try go_simp)); first | ((with_reducible refine hK _ _ ?_); clear hK K) | ((try (simp only [IntWalk.iteOmega]; try go_simp)); (try go_bits); (with_reducible refine hK _ _ ?_); clear hK K))
  (refine Mix.step1 fun K hK => ?_; go_simp; (try (go_bits; try go_simp)); first | ((with_reducible refine hK _ _ ?_); clear hK K) | ((try (simp only [IntWalk.iteOmega]; try go_simp)); (try go_bits); (with_reducible refine hK _ _ ?_); clear hK K))
  (refine Mix.step1 fun K hK => ?_; go_simp; refine ⟨fun W => ?_, hK _ _ ?_⟩; (intro hW1; (try intro hW2); (try intro hW3); (try intro hW4); (try intro hW5); (try intro hW6); (try intro hW7); (try intro hW8); go_simp); clear hK K)
  refine Mix.step2n (by first | rfl | simp [Region.wanted, yielded]) fun K hK => ?_
  go_wp2_with fail
  refine (cloneE_any _ es _ (hs.rdG h2) m2).mono ?_
  rintro en w2 ⟨u, rfl, k1⟩
  obtain ⟨a2, c2, rfl⟩ := (k1.recs 0 rfl).shape
  replace hs := hs.join k1
  clear k1 hCW
  have hCW := cell_of (hs.cells 3 rfl) 5
  simp only [List.getElem?_toArray, List.getElem?_cons_zero, List.getElem?_cons_succ] at hCW
  have n3 := cell_of (hs.cells 3 rfl) 3
  simp only [List.getElem?_toArray, List.getElem?_cons_zero, List.getElem?_cons_succ] at n3
  have qf := fun j => frozen_of (hs.cells 3 rfl) j
  go_wp2_with fail
  refine Mix.post_mk (C := (fun W : World => W.cell? ⟨w.heap.size, 5, none⟩ = some (.slice ae es.length ce))) (by first | exact hCW | exact HCW.out _) (hK _ _ ?_)
  clear hK K
  (refine Mix.step1 fun K hK => ?_; go_simp; (try (go_bits; try go_simp)); first | ((with_reducible refine hK _ _ ?_); clear hK K) | ((try (simp only [IntWalk.iteOmega]; try go_simp)); (try go_bits); (with_reducible refine hK _ _ ?_); clear hK K))
  refine Mix.step2n (by first | rfl | simp [Region.wanted, yielded]) fun K hK => ?_
  go_wp2_with fail
  replace hs := hs.setC 3 rfl 3 (.slice a1 ids.length c1) #[.int .u64 no, .int .i64 day, .bool comp, .slice a1 ids.length c1, .int .i64 n, .slice ae es.length ce, .slice af fl.length cf, .slice ap pot.length cp] rfl
  clear hCW n3 qf
  have hCW := cell_of (hs.cells 3 rfl) 5
  simp only [List.getElem?_toArray, List.getElem?_cons_zero, List.getElem?_cons_succ] at hCW
  have qf := fun j => frozen_of (hs.cells 3 rfl) j
  go_wp2_with fail
  refine Mix.post_mk (C := (fun W : World => W.cell? ⟨w.heap.size, 5, none⟩ = some (.slice ae es.length ce))) (by first | exact hCW | exact HCW.out _) (hK _ _ ?_)
  clear hK K
  iterate 2 (refine Mix.step0 fun K hK => ?_; go_simp; (try (go_bits; try go_simp)); first | ((with_reducible refine hK _ _ ?_); clear hK K) | ((try (simp only [IntWalk.iteOmega]; try go_simp)); (try go_bits); (with_reducible refine hK _ _ ?_); clear hK K))
  refine Mix.done ?_
  refine Mix.step2n (by first | rfl | simp [Region.wanted, yielded]) fun K hK => ?_
  go_wp2_with fail
  replace hs := hs.setC 3 rfl 5 (.slice a2 es.length c2) #[.int .u64 no, .int .i64 day, .bool comp, .slice a1 ids.length c1, .int .i64 n, .slice a2 es.length c2, .slice af fl.length cf, .slice ap pot.length cp] rfl
  clear hCW qf
  refine Mix.post_mk (C := (fun _ => True)) trivial (hK _ _ ?_)
  clear hK K
  refine Mix.done ?_
  have n6 := cell_of (hs.cells 3 rfl) 6
  simp only [List.getElem?_toArray, List.getElem?_cons_zero, List.getElem?_cons_succ] at n6
  have n7 := cell_of (hs.cells 3 rfl) 7
  simp only [List.getElem?_toArray, List.getElem?_cons_zero, List.getElem?_cons_succ] at n7
  go_wp2_with fail
  replace hs := hs.drew
  have hCW := cell_of (hs.cells 3 rfl) 7
  simp only [List.getElem?_toArray, List.getElem?_cons_zero, List.getElem?_cons_succ] at hCW
  refine Mix.region2 10 [0, 0, 0, 2, 1, 1, 1, 2, 0, 0, 2] (fun W : World => W.cell? ⟨w.heap.size, 7, none⟩ = some (.slice ap pot.length cp)) (by kernel_rfl) (by kernel_rfl) hCW ?_
  simp only [List.zip_cons_cons, List.zip_nil_right, List.take_succ_cons, List.take_zero, List.drop_succ_cons, List.drop_zero]
  iterate 3 (refine Mix.step0 fun K hK => ?_; go_simp; (try (go_bits; try go_simp)); first | ((with_reducible refine hK _ _ ?_); clear hK K) | ((try (simp only [IntWalk.iteOmega]; try go_simp)); (try go_bits); (with_reducible refine hK _ _ ?_); clear hK K))
  refine Mix.step2n (by first | rfl | simp [Region.wanted, yielded]) fun K hK => ?_
  go_wp2_with fail
  refine (clone_any _ fl _ (hs.rd h3) m3).mono ?_
  rintro en w3 ⟨u, rfl, k1⟩
  obtain ⟨a3, c3, rfl⟩ := (k1.ints 0 rfl).shape
  replace hs := hs.join k1
  clear k1 n6 n7 hCW
  have hCW := cell_of (hs.cells 4 rfl) 7
  simp only [List.getElem?_toArray, List.getElem?_cons_zero, List.getElem?_cons_succ] at hCW
  go_wp2_with fail
  refine Mix.post_mk (C := (fun W : World => W.cell? ⟨w.heap.size, 7, none⟩ = some (.slice ap pot.length cp))) (by first | exact hCW | exact HCW.out _) (hK _ _ ?_)
  clear hK K
  (refine Mix.step1 fun K hK => ?_; go_simp; (try (go_bits; try go_simp)); first | ((with_reducible refine hK _ _ ?_); clear hK K) | ((try (simp only [IntWalk.iteOmega]; try go_simp)); (try go_bits); (with_reducible refine hK _ _ ?_); clear hK K))
  (refine Mix.step1 fun K hK => ?_; go_simp; (try (go_bits; try go_simp)); first | ((with_reducible refine hK _ _ ?_); clear hK K) | ((try (simp only [IntWalk.iteOmega]; try go_simp)); (try go_bits); (with_reducible refine hK _ _ ?_); clear hK K))
  (refine Mix.step1 fun K hK => ?_; go_simp; refine ⟨fun W => ?_, hK _ _ ?_⟩; (intro hW1; (try intro hW2); (try intro hW3); (try intro hW4); (try intro hW5); (try intro hW6); (try intro hW7); (try intro hW8); go_simp); clear hK K)
  refine Mix.step2n (by first | rfl | simp [Region.wanted, yielded]) fun K hK => ?_
  go_wp2_with fail
  refine (clone_any _ pot _ (hs.rd h4) m4).mono ?_
  rintro en w4 ⟨u, rfl, k1⟩
  obtain ⟨a4, c4, rfl⟩ := (k1.ints 0 rfl).shape
  replace hs := hs.join k1
  clear k1 hCW
  have hCW := cell_of (hs.cells 5 rfl) 7
  simp only [List.getElem?_toArray, List.getElem?_cons_zero, List.getElem?_cons_succ] at hCW
  have n6 := cell_of (hs.cells 5 rfl) 6
  simp only [List.getElem?_toArray, List.getElem?_cons_zero, List.getElem?_cons_succ] at n6
  have qf := fun j => frozen_of (hs.cells 5 rfl) j
  go_wp2_with fail
  refine Mix.post_mk (C := (fun W : World => W.cell? ⟨w.heap.size, 7, none⟩ = some (.slice ap pot.length cp))) (by first | exact hCW | exact HCW.out _) (hK _ _ ?_)
  clear hK K
  iterate 2 (refine Mix.step0 fun K hK => ?_; go_simp; (try (go_bits; try go_simp)); first | ((with_reducible refine hK _ _ ?_); clear hK K) | ((try (simp only [IntWalk.iteOmega]; try go_simp)); (try go_bits); (with_reducible refine hK _ _ ?_); clear hK K))
  refine Mix.done ?_
  refine Mix.step2n (by first | rfl | simp [Region.wanted, yielded]) fun K hK => ?_
  go_wp2_with fail
  replace hs := (hs.setC 5 rfl 6 (.slice a3 fl.length c3) #[.int .u64 no, .int .i64 day, .bool comp, .slice a1 ids.length c1, .int .i64 n, .slice a2 es.length c2, .slice a3 fl.length c3, .slice ap pot.length cp] rfl).setC 5 rfl 7 (.slice a4 pot.length c4) #[.int .u64 no, .int .i64 day, .bool comp, .slice a1 ids.length c1, .int .i64 n, .slice a2 es.length c2, .slice a3 fl.length c3, .slice a4 pot.length c4] rfl
  clear hCW qf n6
  refine Mix.post_mk (C := (fun _ => True)) trivial (hK _ _ ?_)
  clear hK K
  refine Mix.done ?_
  have n0 := cell_of (hs.cells 5 rfl) 0
  simp only [List.getElem?_toArray, List.getElem?_cons_zero, List.getElem?_cons_succ] at n0
  have n1 := cell_of (hs.cells 5 rfl) 1
  simp only [List.getElem?_toArray, List.getElem?_cons_zero, List.getElem?_cons_succ] at n1
  have n2 := cell_of (hs.cells 5 rfl) 2
  simp only [List.getElem?_toArray, List.getElem?_cons_zero, List.getElem?_cons_succ] at n2
  have n3 := cell_of (hs.cells 5 rfl) 3
  simp only [List.getElem?_toArray, List.getElem?_cons_zero, List.getElem?_cons_succ] at n3
  have n4 := cell_of (hs.cells 5 rfl) 4
  simp only [List.getElem?_toArray, List.getElem?_cons_zero, List.getElem?_cons_succ] at n4
  have n5 := cell_of (hs.cells 5 rfl) 5
  simp only [List.getElem?_toArray, List.getElem?_cons_zero, List.getElem?_cons_succ] at n5
  have n6 := cell_of (hs.cells 5 rfl) 6
  simp only [List.getElem?_toArray, List.getElem?_cons_zero, List.getElem?_cons_succ] at n6
  have n7 := cell_of (hs.cells 5 rfl) 7
  simp only [List.getElem?_toArray, List.getElem?_cons_zero, List.getElem?_cons_succ] at n7
  have z0 := cell_of (hs.cells 4 rfl) 0
  simp only [List.getElem?_toArray, List.getElem?_cons_zero, List.getElem?_cons_succ] at z0
  have z1 := cell_of (hs.cells 4 rfl) 1
  simp only [List.getElem?_toArray, List.getElem?_cons_zero, List.getElem?_cons_succ] at z1
  have z2 := cell_of (hs.cells 4 rfl) 2
  simp only [List.getElem?_toArray, List.getElem?_cons_zero, List.getElem?_cons_succ] at z2
  have z3 := cell_of (hs.cells 4 rfl) 3
  simp only [List.getElem?_toArray, List.getElem?_cons_zero, List.getElem?_cons_succ] at z3
  have z4 := cell_of (hs.cells 4 rfl) 4
  simp only [List.getElem?_toArray, List.getElem?_cons_zero, List.getElem?_cons_succ] at z4
  have z5 := cell_of (hs.cells 4 rfl) 5
  simp only [List.getElem?_toArray, List.getElem?_cons_zero, List.getElem?_cons_succ] at z5
  have z6 := cell_of (hs.cells 4 rfl) 6
  simp only [List.getElem?_toArray, List.getElem?_cons_zero, List.getElem?_cons_succ] at z6
  have z7 := cell_of (hs.cells 4 rfl) 7
  simp only [List.getElem?_toArray, List.getElem?_cons_zero, List.getElem?_cons_succ] at z7
  have qf := fun j => frozen_of (hs.cells 4 rfl) j
  go_wp2_with fail
  replace hs := ((((((((hs.setC 4 rfl 0 (.int .u64 no) #[.int .u64 no, .int .i64 0, .bool false, .slice none 0 0, .int .i64 0, .slice none 0 0, .slice none 0 0, .slice none 0 0] rfl).setC 4 rfl 1 (.int .i64 day) #[.int .u64 no, .int .i64 day, .bool false, .slice none 0 0, .int .i64 0, .slice none 0 0, .slice none 0 0, .slice none 0 0] rfl).setC 4 rfl 2 (.bool comp) #[.int .u64 no, .int .i64 day, .bool comp, .slice none 0 0, .int .i64 0, .slice none 0 0, .slice none 0 0, .slice none 0 0] rfl).setC 4 rfl 3 (.slice a1 ids.length c1) #[.int .u64 no, .int .i64 day, .bool comp, .slice a1 ids.length c1, .int .i64 0, .slice none 0 0, .slice none 0 0, .slice none 0 0] rfl).setC 4 rfl 4 (.int .i64 n) #[.int .u64 no, .int .i64 day, .bool comp, .slice a1 ids.length c1, .int .i64 n, .slice none 0 0, .slice none 0 0, .slice none 0 0] rfl).setC 4 rfl 5 (.slice a2 es.length c2) #[.int .u64 no, .int .i64 day, .bool comp, .slice a1 ids.length c1, .int .i64 n, .slice a2 es.length c2, .slice none 0 0, .slice none 0 0] rfl).setC 4 rfl 6 (.slice a3 fl.length c3) #[.int .u64 no, .int .i64 day, .bool comp, .slice a1 ids.length c1, .int .i64 n, .slice a2 es.length c2, .slice a3 fl.length c3, .slice none 0 0] rfl).setC 4 rfl 7 (.slice a4 pot.length c4) #[.int .u64 no, .int .i64 day, .bool comp, .slice a1 ids.length c1, .int .i64 n, .slice a2 es.length c2, .slice a3 fl.length c3, .slice a4 pot.length c4] rfl)
  clear n0 n1 n2 n3 n4 n5 n6 n7 z0 z1 z2 z3 z4 z5 z6 z7 qf
  have q0 := cell_of (hs.cells 4 rfl) 0
  simp only [List.getElem?_toArray, List.getElem?_cons_zero, List.getElem?_cons_succ] at q0
  have q1 := cell_of (hs.cells 4 rfl) 1
  simp only [List.getElem?_toArray, List.getElem?_cons_zero, List.getElem?_cons_succ] at q1
  have q2 := cell_of (hs.cells 4 rfl) 2
  simp only [List.getElem?_toArray, List.getElem?_cons_zero, List.getElem?_cons_succ] at q2
  have q3 := cell_of (hs.cells 4 rfl) 3
  simp only [List.getElem?_toArray, List.getElem?_cons_zero, List.getElem?_cons_succ] at q3
  have q4 := cell_of (hs.cells 4 rfl) 4
  simp only [List.getElem?_toArray, List.getElem?_cons_zero, List.getElem?_cons_succ] at q4
  have q5 := cell_of (hs.cells 4 rfl) 5
  simp only [List.getElem?_toArray, List.getElem?_cons_zero, List.getElem?_cons_succ] at q5
  have q6 := cell_of (hs.cells 4 rfl) 6
  simp only [List.getElem?_toArray, List.getElem?_cons_zero, List.getElem?_cons_succ] at q6
  have q7 := cell_of (hs.cells 4 rfl) 7
  simp only [List.getElem?_toArray, List.getElem?_cons_zero, List.getElem?_cons_succ] at q7
  refine bodyPost_ret (v := .agg #[.int .u64 no, .int .i64 day, .bool comp, .slice a1 ids.length c1, .int .i64 n, .slice a2 es.length c2, .slice a3 fl.length c3, .slice a4 pot.length c4]) (by simp [results, Try.results24, go_sem, q0, q1, q2, q3, q4, q5, q6, q7]) rfl ⟨⟨no, day, comp, a1, c1, ids, n, a2, c2, es, a3, c3, fl, a4, c4, pot⟩, rfl, rfl, ?_⟩
  exact Sep.roNew (r := ⟨no, day, comp, a1, c1, ids, n, a2, c2, es, a3, c3, fl, a4, c4, pot⟩) (hs.takeN 4)
end Go.Proofs.Ytfnkmkfkomhhnaa

/-
  Package archive, walked: may, New, put, No; the reference's May; a round of nothing.
-/
namespace Go.Proofs.Ytfnkmkfkomhhnaa
open Go Go.RowKit Go.Mem Go.NetP Go.CertP Go.ArchP

set_option maxHeartbeats 1000000 in
theorem may_any (r : Ro) (w : World) (h : r.Ok w) :
    Calls Try.prog 22 #[r.val] w fun en w' => en = .returned (.bool (mayC r.co)) ∧ Below w.heap.size w w' := by
  obtain ⟨no, day, comp, ai, ci, ids, n, ae, ce, es, af, cf, fl, ap, cp, pot⟩ := r
  obtain ⟨h1, h2, h3, h4⟩ := h
  have hle := h1.le'
  dsimp only [Ro.val, Ro.co] at *
  have hs := (Sep.start w).newCells #[.int .u64 no, .int .i64 day, .bool comp, .slice ai ids.length ci, .int .i64 n, .slice ae es.length ce, .slice af fl.length cf, .slice ap pot.length cp] 39
  have n4 := cell_of (hs.cells 0 rfl) 4
  simp only [List.getElem?_toArray, List.getElem?_cons_zero, List.getElem?_cons_succ] at n4
  have n5 := cell_of (hs.cells 0 rfl) 5
  simp only [List.getElem?_toArray, List.getElem?_cons_zero, List.getElem?_cons_succ] at n5
  have n6 := cell_of (hs.cells 0 rfl) 6
  simp only [List.getElem?_toArray, List.getElem?_cons_zero, List.getElem?_cons_succ] at n6
  have n7 := cell_of (hs.cells 0 rfl) 7
  simp only [List.getElem?_toArray, List.getElem?_cons_zero, List.getElem?_cons_succ] at n7
  cases hc : checkB n es fl pot
  · have HC := Lib.hid hc
    have HM := Lib.hid (show mayC ⟨no, day, comp, ids, n, es, fl, pot⟩ = false by simp [mayC, hc])
    clear hc
    go_enter Try.func22, Try.ntmps22
    go_wp2_with fail
    refine (check_any n ae ce es _ fl _ pot _ (hs.rdG h2) (hs.rd h3) (hs.rd h4)).mono ?_
    rintro en w1 ⟨rfl, hb⟩
    rw [HC.out]
    replace hs := hs.belowStep hb
    clear n4 n5 n6 n7
    go_wp2_with fail
    go_ret
    exact ⟨by rw [HM.out]; rfl, hs.below⟩
  · have HC := Lib.hid hc
    by_cases hl : ids.length ≤ 64
    · have e1 : decide ((ids.length : Int) ≤ 64) = true := decide_eq_true (by omega)
      have HM := Lib.hid (show mayC ⟨no, day, comp, ids, n, es, fl, pot⟩ = decide (0 ≤ day) by simp [mayC, hc, hl])
      clear hc
      go_enter Try.func22, Try.ntmps22
      go_wp2_with fail
      refine (check_any n ae ce es _ fl _ pot _ (hs.rdG h2) (hs.rd h3) (hs.rd h4)).mono ?_
      rintro en w1 ⟨rfl, hb⟩
      rw [HC.out]
      replace hs := hs.belowStep hb
      clear n4 n5 n6 n7
      have n1 := cell_of (hs.cells 0 rfl) 1
      simp only [List.getElem?_toArray, List.getElem?_cons_zero, List.getElem?_cons_succ] at n1
      have n3 := cell_of (hs.cells 0 rfl) 3
      simp only [List.getElem?_toArray, List.getElem?_cons_zero, List.getElem?_cons_succ] at n3
      go_wp2_with fail
      go_ret
      exact ⟨by rw [HM.out]; rfl, hs.below⟩
    · have e1 : decide ((ids.length : Int) ≤ 64) = false := decide_eq_false (by omega)
      have HM := Lib.hid (show mayC ⟨no, day, comp, ids, n, es, fl, pot⟩ = false by simp [mayC, hc, hl])
      clear hc
      go_enter Try.func22, Try.ntmps22
      go_wp2_with fail
      refine (check_any n ae ce es _ fl _ pot _ (hs.rdG h2) (hs.rd h3) (hs.rd h4)).mono ?_
      rintro en w1 ⟨rfl, hb⟩
      rw [HC.out]
      replace hs := hs.belowStep hb
      clear n4 n5 n6 n7
      have n1 := cell_of (hs.cells 0 rfl) 1
      simp only [List.getElem?_toArray, List.getElem?_cons_zero, List.getElem?_cons_succ] at n1
      have n3 := cell_of (hs.cells 0 rfl) 3
      simp only [List.getElem?_toArray, List.getElem?_cons_zero, List.getElem?_cons_succ] at n3
      go_wp2_with fail
      go_ret
      exact ⟨by rw [HM.out]; rfl, hs.below⟩
set_option maxHeartbeats 1000000 in
theorem rmay_any (r : Ro) (w : World) (h : r.Ok w) :
    Calls Try.prog 29 #[r.val] w fun en w' => en = .returned (.bool (mayC r.co)) ∧ Below w.heap.size w w' := by
  obtain ⟨no, day, comp, ai, ci, ids, n, ae, ce, es, af, cf, fl, ap, cp, pot⟩ := r
  obtain ⟨h1, h2, h3, h4⟩ := h
  have hle := h1.le'
  dsimp only [Ro.val, Ro.co] at *
  have hs := (Sep.start w).newCells #[.int .u64 no, .int .i64 day, .bool comp, .slice ai ids.length ci, .int .i64 n, .slice ae es.length ce, .slice af fl.length cf, .slice ap pot.length cp] 39
  have n4 := cell_of (hs.cells 0 rfl) 4
  simp only [List.getElem?_toArray, List.getElem?_cons_zero, List.getElem?_cons_succ] at n4
  have n5 := cell_of (hs.cells 0 rfl) 5
  simp only [List.getElem?_toArray, List.getElem?_cons_zero, List.getElem?_cons_succ] at n5
  have n6 := cell_of (hs.cells 0 rfl) 6
  simp only [List.getElem?_toArray, List.getElem?_cons_zero, List.getElem?_cons_succ] at n6
  have n7 := cell_of (hs.cells 0 rfl) 7
  simp only [List.getElem?_toArray, List.getElem?_cons_zero, List.getElem?_cons_succ] at n7
  cases hc : checkB n es fl pot
  · have HC := Lib.hid hc
    have HM := Lib.hid (show mayC ⟨no, day, comp, ids, n, es, fl, pot⟩ = false by simp [mayC, hc])
    clear hc
    go_enter Try.func29, Try.ntmps29
    go_wp2_with fail
    refine (rcheck_any n ae ce es _ fl _ pot _ (hs.rdG h2) (hs.rd h3) (hs.rd h4)).mono ?_
    rintro en w1 ⟨rfl, hb⟩
    rw [HC.out]
    replace hs := hs.belowStep hb
    clear n4 n5 n6 n7
    go_wp2_with fail
    go_ret
    exact ⟨by rw [HM.out]; rfl, hs.below⟩
  · have HC := Lib.hid hc
    by_cases hl : ids.length ≤ 64
    · have e1 : decide ((ids.length : Int) ≤ 64) = true := decide_eq_true (by omega)
      have HM := Lib.hid (show mayC ⟨no, day, comp, ids, n, es, fl, pot⟩ = decide (0 ≤ day) by simp [mayC, hc, hl])
      clear hc
      go_enter Try.func29, Try.ntmps29
      go_wp2_with fail
      refine (rcheck_any n ae ce es _ fl _ pot _ (hs.rdG h2) (hs.rd h3) (hs.rd h4)).mono ?_
      rintro en w1 ⟨rfl, hb⟩
      rw [HC.out]
      replace hs := hs.belowStep hb
      clear n4 n5 n6 n7
      have n1 := cell_of (hs.cells 0 rfl) 1
      simp only [List.getElem?_toArray, List.getElem?_cons_zero, List.getElem?_cons_succ] at n1
      have n3 := cell_of (hs.cells 0 rfl) 3
      simp only [List.getElem?_toArray, List.getElem?_cons_zero, List.getElem?_cons_succ] at n3
      go_wp2_with fail
      go_ret
      exact ⟨by rw [HM.out]; rfl, hs.below⟩
    · have e1 : decide ((ids.length : Int) ≤ 64) = false := decide_eq_false (by omega)
      have HM := Lib.hid (show mayC ⟨no, day, comp, ids, n, es, fl, pot⟩ = false by simp [mayC, hc, hl])
      clear hc
      go_enter Try.func29, Try.ntmps29
      go_wp2_with fail
      refine (rcheck_any n ae ce es _ fl _ pot _ (hs.rdG h2) (hs.rd h3) (hs.rd h4)).mono ?_
      rintro en w1 ⟨rfl, hb⟩
      rw [HC.out]
      replace hs := hs.belowStep hb
      clear n4 n5 n6 n7
      have n1 := cell_of (hs.cells 0 rfl) 1
      simp only [List.getElem?_toArray, List.getElem?_cons_zero, List.getElem?_cons_succ] at n1
      have n3 := cell_of (hs.cells 0 rfl) 3
      simp only [List.getElem?_toArray, List.getElem?_cons_zero, List.getElem?_cons_succ] at n3
      go_wp2_with fail
      go_ret
      exact ⟨by rw [HM.out]; rfl, hs.below⟩
/-- A round of nothing. -/
def bareR (g : Nat) : Ro := ⟨0, 0, false, none, 0, [], 1, none, 0, [], none, 0, [], some ⟨g, 0, none⟩, 1, [0]⟩
theorem bare_ok {w0 w : World} {g : Nat} {L : List Thing} (h : Sep w0 w L) (i : Nat) (hi : L[i]? = some (intsT .i64 2 (.slice (some ⟨g, 0, none⟩) 1 1) [0])) : (bareR g).Ok w := ⟨Rd.nil _ _, RdG.nil _ _, Rd.nil _ _, h.rdInts i hi⟩
set_option maxHeartbeats 1000000 in
theorem bare_any (w : World) : Calls Try.prog 16 #[] w fun en w' => ∃ g, en = .returned (bareR g).val ∧ Sep w w' [intsT .i64 2 (.slice (some ⟨g, 0, none⟩) 1 1) [0]] := by
  have key : ∀ cs : Array Value, Sep w ((w.alloc (.cells cs 39)).alloc (.cells #[.int .i64 0] 2)) [intsT .i64 2 (.slice (some ⟨w.heap.size + 1, 0, none⟩) 1 1) [0], cellsT w.heap.size cs 39] := fun cs => by
    have h := ((Sep.start w).newCells cs 39).litInts .i64 2 [0] (by simp [maxLen])
    simp only [World.size_alloc] at h
    exact h
  have hs := key #[.int .u64 0, .int .i64 0, .bool false, .slice none 0 0, .int .i64 1, .slice none 0 0, .slice none 0 0, .slice (some ⟨w.heap.size + 1, 0, none⟩) 1 1]
  have q0 := cell_of (hs.cells 1 rfl) 0
  simp only [List.getElem?_toArray, List.getElem?_cons_zero, List.getElem?_cons_succ] at q0
  have q1 := cell_of (hs.cells 1 rfl) 1
  simp only [List.getElem?_toArray, List.getElem?_cons_zero, List.getElem?_cons_succ] at q1
  have q2 := cell_of (hs.cells 1 rfl) 2
  simp only [List.getElem?_toArray, List.getElem?_cons_zero, List.getElem?_cons_succ] at q2
  have q3 := cell_of (hs.cells 1 rfl) 3
  simp only [List.getElem?_toArray, List.getElem?_cons_zero, List.getElem?_cons_succ] at q3
  have q4 := cell_of (hs.cells 1 rfl) 4
  simp only [List.getElem?_toArray, List.getElem?_cons_zero, List.getElem?_cons_succ] at q4
  have q5 := cell_of (hs.cells 1 rfl) 5
  simp only [List.getElem?_toArray, List.getElem?_cons_zero, List.getElem?_cons_succ] at q5
  have q6 := cell_of (hs.cells 1 rfl) 6
  simp only [List.getElem?_toArray, List.getElem?_cons_zero, List.getElem?_cons_succ] at q6
  have q7 := cell_of (hs.cells 1 rfl) 7
  simp only [List.getElem?_toArray, List.getElem?_cons_zero, List.getElem?_cons_succ] at q7
  go_enter Try.func16, Try.ntmps16
  go_wp2_with fail
  exact bodyPost_ret (v := (bareR (w.heap.size + 1)).val) (by simp [bareR, Ro.val, results, Try.results16, go_sem, q0, q1, q2, q3, q4, q5, q6, q7]) rfl ⟨_, rfl, hs.takeN 1⟩
/-- An archive in block b. -/
abbrev arcT (b : Nat) (ks : List Ro) (n no : Int) : Thing := archT 27 70 2 59 b ks n no
set_option maxHeartbeats 1000000 in
theorem new_any (w : World) : Calls Try.prog 9 #[] w fun en w' => ∃ b, en = .returned (.pointer (some ⟨b, 0, none⟩)) ∧ Sep w w' [arcT b (List.replicate 4 default) 0 0] := by
  have hs := Sep.archNew (Tu := 27) (Te := 70) (Ti := 2) (T := 59) (ks := List.replicate 4 default) (n := 0) (no := 0) ((Sep.start w).newCells (roR.flat (List.replicate 4 default) ++ [Value.int .u64 0, Value.int .u64 0]).toArray 59) (fun r hr => List.eq_of_mem_replicate hr)
  go_enter Try.func9, Try.ntmps9
  go_wp2_with fail
  go_ret
  exact ⟨_, rfl, hs⟩
set_option maxHeartbeats 1000000 in
theorem no_any (b : Nat) (no : Int) (w : World) (hn : w.cell? ⟨b, 33, none⟩ = some (.int .u64 no)) : Calls Try.prog 11 #[.pointer (some ⟨b, 0, none⟩)] w fun en w' => en = .returned (.int .u64 no) ∧ w' = w := by
  go_enter Try.func11, Try.ntmps11
  go_wp2_with fail
  go_ret
  exact ⟨rfl, rfl⟩
set_option maxHeartbeats 1000000 in
theorem no_nil (w : World) : Calls Try.prog 11 #[.pointer none] w fun en w' => en = .returned (.int .u64 0) ∧ w' = w := by
  go_enter Try.func11, Try.ntmps11
  go_wp2_with fail
  go_ret
  exact ⟨rfl, rfl⟩
end Go.Proofs.Ytfnkmkfkomhhnaa

/-
  Package archive, walked: put.
-/
namespace Go.Proofs.Ytfnkmkfkomhhnaa
open Go Go.RowKit Go.Mem Go.NetP Go.CertP Go.ArchP

set_option maxHeartbeats 4000000 in
theorem put_any {w0 w : World} {L : List Thing} (hs : Sep w0 w L) (i b : Nat) (ks : List Ro) (n no : Int) (hi : L[i]? = some (arcT b ks n no)) (h4 : ks.length = 4) (hn : 0 ≤ n ∧ n ≤ 4) (r : Ro) (N : Nat) (hN : r.no = N) (hNl : N ≤ 4611686018427387905) (h : r.Ok w) (hsm : r.small) :
    Calls Try.prog 23 #[.pointer (some ⟨b, 0, none⟩), r.val] w fun en w' => (∃ u, en = .returned u) ∧ ∃ r', r'.co = r.co ∧ Sep w0 w' (L.set i (arcT b (ks.set (N % 4) r') (cap4 n) N)) := by
  obtain ⟨rno, day, comp, ai, ci, ids, rn, ae, ce, es, af, cf, fl, ap, cp, pot⟩ := r
  dsimp only at hN
  subst hN
  have hw := ((Sep.start w).newCells #[.int .u64 N, .int .i64 day, .bool comp, .slice ai ids.length ci, .int .i64 rn, .slice ae es.length ce, .slice af fl.length cf, .slice ap pot.length cp] 39).drew
  have hs1 := (hs.newCells #[.int .u64 N, .int .i64 day, .bool comp, .slice ai ids.length ci, .int .i64 rn, .slice ae es.length ce, .slice af fl.length cf, .slice ap pot.length cp] 39).drew
  have OWN := Lib.hid (fun W hW => own_any ⟨(N : Int), day, comp, ai, ci, ids, rn, ae, ce, es, af, cf, fl, ap, cp, pot⟩ W hW hsm)
  have HOK := Lib.hid (h.sep hw)
  have hi1 : (cellsT w.heap.size #[.int .u64 N, .int .i64 day, .bool comp, .slice ai ids.length ci, .int .i64 rn, .slice ae es.length ce, .slice af fl.length cf, .slice ap pot.length cp] 39 :: L)[i + 1]? = some (arcT b ks n no) := by simpa using hi
  have HI := Lib.hid hi1
  clear hi hi1 h hsm
  dsimp only [Ro.val, Ro.co] at *
  have n0 := cell_of (hw.cells 0 rfl) 0
  simp only [List.getElem?_toArray, List.getElem?_cons_zero, List.getElem?_cons_succ] at n0
  have n1 := cell_of (hw.cells 0 rfl) 1
  simp only [List.getElem?_toArray, List.getElem?_cons_zero, List.getElem?_cons_succ] at n1
  have n2 := cell_of (hw.cells 0 rfl) 2
  simp only [List.getElem?_toArray, List.getElem?_cons_zero, List.getElem?_cons_succ] at n2
  have n3 := cell_of (hw.cells 0 rfl) 3
  simp only [List.getElem?_toArray, List.getElem?_cons_zero, List.getElem?_cons_succ] at n3
  have n4 := cell_of (hw.cells 0 rfl) 4
  simp only [List.getElem?_toArray, List.getElem?_cons_zero, List.getElem?_cons_succ] at n4
  have n5 := cell_of (hw.cells 0 rfl) 5
  simp only [List.getElem?_toArray, List.getElem?_cons_zero, List.getElem?_cons_succ] at n5
  have n6 := cell_of (hw.cells 0 rfl) 6
  simp only [List.getElem?_toArray, List.getElem?_cons_zero, List.getElem?_cons_succ] at n6
  have n7 := cell_of (hw.cells 0 rfl) 7
  simp only [List.getElem?_toArray, List.getElem?_cons_zero, List.getElem?_cons_succ] at n7
  have hCW := n0
  have hk4 : N % 4 < 4 := Nat.mod_lt _ (by decide)
  go_enter Try.func23, Try.ntmps23
  go_wp2_with fail
  refine Mix.region [1, 1, 1, 1, 0, 2, 1, 1, 0, 2] (fun W : World => W.cell? ⟨w.heap.size, 0, none⟩ = some (.int .u64 N)) (by kernel_rfl) (by kernel_rfl) hCW ?_
  simp only [List.zip_cons_cons, List.zip_nil_right]
  (refine Mix.step1 fun K hK => ?_; go_simp; (try (go_bits; try go_simp)); first | ((with_reducible refine hK _ _ ?_); clear hK K) | ((try (simp only [IntWalk.iteOmega]; try go_simp)); (try go_bits); (with_reducible refine hK _ _ ?_); clear hK K))
  (refine Mix.step1 fun K hK => ?_; go_simp; (try (go_bits; try go_simp)); first | ((with_reducible refine hK _ _ ?_); clear hK K) | ((try (simp only [IntWalk.iteOmega]; try go_simp)); (try go_bits); (with_reducible refine hK _ _ ?_); clear hK K))
  (refine Mix.step1 fun K hK => ?_; go_simp; refine ⟨fun W => ?_, hK _ _ ?_⟩; (intro hW1; (try intro hW2); (try intro hW3); (try intro hW4); (try intro hW5); (try intro hW6); (try intro hW7); (try intro hW8); go_simp); clear hK K)
  (refine Mix.step1 fun K hK => ?_; go_simp; (try (go_bits; try go_simp)); first | ((with_reducible refine hK _ _ ?_); clear hK K) | ((try (simp only [IntWalk.iteOmega]; try go_simp)); (try go_bits); (with_reducible refine hK _ _ ?_); clear hK K))
  iterate 1 (refine Mix.step0 fun K hK => ?_; go_simp; (try (go_bits; try go_simp)); first | ((with_reducible refine hK _ _ ?_); clear hK K) | ((try (simp only [IntWalk.iteOmega]; try go_simp)); (try go_bits); (with_reducible refine hK _ _ ?_); clear hK K))
  refine Mix.step2n (by first | rfl | simp [Region.wanted, yielded]) fun K hK => ?_
  go_wp2_with fail
  refine (OWN.out _ HOK.out).mono ?_
  rintro en w1 ⟨r1, hco, rfl, k1⟩
  obtain ⟨xno, xday, xcomp, a1, c1, xids, xn, a2, c2, xes, a3, c3, xfl, a4, c4, xpot⟩ := r1
  replace hco := hco.symm
  simp only [Co.mk.injEq] at hco
  obtain ⟨rfl, rfl, rfl, rfl, rfl, rfl, rfl, rfl⟩ := hco
  have hs2 := hs1.belowStep k1.below
  have hs3 := Sep.archPut hs1 (i + 1) HI.out k1 (N % 4) (by omega)
  dsimp only [] at hs3
  simp only [List.set_cons_succ] at hs3
  have hA := (Sep.arch hs2 HI.out).1
  have qf := fun j => frozen_of hA j
  have y0 := arch_cell hA (N % 4) (by omega) 0 (by decide)
  have y1 := arch_cell hA (N % 4) (by omega) 1 (by decide)
  have y2 := arch_cell hA (N % 4) (by omega) 2 (by decide)
  have y3 := arch_cell hA (N % 4) (by omega) 3 (by decide)
  have y4 := arch_cell hA (N % 4) (by omega) 4 (by decide)
  have y5 := arch_cell hA (N % 4) (by omega) 5 (by decide)
  have y6 := arch_cell hA (N % 4) (by omega) 6 (by decide)
  have y7 := arch_cell hA (N % 4) (by omega) 7 (by decide)
  simp only [roR, List.getElem?_cons_zero, List.getElem?_cons_succ, Nat.add_zero] at y0 y1 y2 y3 y4 y5 y6 y7
  clear n0 n1 n2 n3 n4 n5 n6 n7
  have hCW := cell_of (hs2.cells 0 rfl) 0
  simp only [List.getElem?_toArray, List.getElem?_cons_zero, List.getElem?_cons_succ] at hCW
  clear hA hs1 hw
  go_wp2_with fail
  refine Mix.post_mk (C := (fun W : World => W.cell? ⟨w.heap.size, 0, none⟩ = some (.int .u64 N))) (by first | exact hCW | exact HCW.out _) (hK _ _ ?_)
  clear hK K
  (refine Mix.step1 fun K hK => ?_; go_simp; (try (go_bits; try go_simp)); first | ((with_reducible refine hK _ _ ?_); clear hK K) | ((try (simp only [IntWalk.iteOmega]; try go_simp)); (try go_bits); (with_reducible refine hK _ _ ?_); clear hK K))
  (refine Mix.step1 fun K hK => ?_; go_simp; (try (go_bits; try go_simp)); first | ((with_reducible refine hK _ _ ?_); clear hK K) | ((try (simp only [IntWalk.iteOmega]; try go_simp)); (try go_bits); (with_reducible refine hK _ _ ?_); clear hK K))
  iterate 1 (refine Mix.step0 fun K hK => ?_; go_simp; (try (go_bits; try go_simp)); first | ((with_reducible refine hK _ _ ?_); clear hK K) | ((try (simp only [IntWalk.iteOmega]; try go_simp)); (try go_bits); (with_reducible refine hK _ _ ?_); clear hK K))
  refine Mix.step2n (by first | rfl | simp [Region.wanted, yielded]) fun K hK => ?_
  go_wp2_with fail
  have hX := hCW
  clear hCW hs2
  have hCW := cell_of (hs3.cells 0 rfl) 0
  simp only [List.getElem?_toArray, List.getElem?_cons_zero, List.getElem?_cons_succ] at hCW
  refine Mix.post_mk (C := (fun W : World => W.cell? ⟨w.heap.size, 0, none⟩ = some (.int .u64 N))) (by first | exact hCW | exact HCW.out _) (hK _ _ ?_)
  clear hK K
  refine Mix.done ?_
  clear hX y0 y1 y2 y3 y4 y5 y6 y7 qf hCW k1
  obtain ⟨A, hA⟩ : ∃ A, A = ks.set (N % 4) ⟨(N : Int), day, comp, a1, c1, ids, rn, a2, c2, es, a3, c3, fl, a4, c4, pot⟩ := ⟨_, rfl⟩
  rw [← hA] at hs3
  have hAl : A.length = 4 := by rw [hA, List.length_set]; exact h4
  have HA := Lib.hid hA
  clear hA
  have hil : i < L.length := by have := (List.getElem?_eq_some_iff.1 HI.out).1; simpa using this
  clear HI OWN HOK
  revert hs3
  generalize World.setCell (World.setCell _ _ _) _ _ = W3
  intro hs3
  have hs4 := hs3.drew
  have hi2 : (cellsT w.heap.size #[.int .u64 N, .int .i64 day, .bool comp, .slice ai ids.length ci, .int .i64 rn, .slice ae es.length ce, .slice af fl.length cf, .slice ap pot.length cp] 39 :: L.set i (arcT b A n no))[i + 1]? = some (arcT b A n no) := by simp [hil]
  have hA2 := (Sep.arch hs4 hi2).1
  obtain ⟨an, ano⟩ := arch_n hAl hA2
  have qf := fun j => frozen_of hA2 j
  have hCW := cell_of (hs4.cells 0 rfl) 0
  simp only [List.getElem?_toArray, List.getElem?_cons_zero, List.getElem?_cons_succ] at hCW
  clear hA2
  by_cases hm : n + 1 ≤ 4
  · have HE := Lib.hid (show (n + 1) = cap4 n by unfold cap4; rw [if_pos hm])
    go_wp2_with fail
    refine Mix.region [0, 1, 0, 0, 0, 0, 0, 0, 1, 1, 0, 0, 2, 0, 0, 2] (fun W : World => W.cell? ⟨w.heap.size, 0, none⟩ = some (.int .u64 N)) (by kernel_rfl) (by kernel_rfl) hCW ?_
    simp only [List.zip_cons_cons, List.zip_nil_right]
    iterate 1 (refine Mix.step0 fun K hK => ?_; go_simp; (try (go_bits; try go_simp)); first | ((with_reducible refine hK _ _ ?_); clear hK K) | ((try (simp only [IntWalk.iteOmega]; try go_simp)); (try go_bits); (with_reducible refine hK _ _ ?_); clear hK K))
    (refine Mix.step1 fun K hK => ?_; go_simp; (try (go_bits; try go_simp)); first | ((with_reducible refine hK _ _ ?_); clear hK K) | ((try (simp only [IntWalk.iteOmega]; try go_simp)); (try go_bits); (with_reducible refine hK _ _ ?_); clear hK K))
    iterate 6 (refine Mix.step0 fun K hK => ?_; go_simp; (try (go_bits; try go_simp)); first | ((with_reducible refine hK _ _ ?_); clear hK K) | ((try (simp only [IntWalk.iteOmega]; try go_simp)); (try go_bits); (with_reducible refine hK _ _ ?_); clear hK K))
    (refine Mix.step1 fun K hK => ?_; go_simp; (try (go_bits; try go_simp)); first | ((with_reducible refine hK _ _ ?_); clear hK K) | ((try (simp only [IntWalk.iteOmega]; try go_simp)); (try go_bits); (with_reducible refine hK _ _ ?_); clear hK K))
    (refine Mix.step1 fun K hK => ?_; go_simp; refine ⟨fun W => ?_, hK _ _ ?_⟩; (intro hW1; (try intro hW2); (try intro hW3); (try intro hW4); (try intro hW5); (try intro hW6); (try intro hW7); (try intro hW8); go_simp); clear hK K)
    iterate 2 (refine Mix.step0 fun K hK => ?_; go_simp; (try (go_bits; try go_simp)); first | ((with_reducible refine hK _ _ ?_); clear hK K) | ((try (simp only [IntWalk.iteOmega]; try go_simp)); (try go_bits); (with_reducible refine hK _ _ ?_); clear hK K))
    refine Mix.step2n (by first | rfl | simp [Region.wanted, yielded]) fun K hK => ?_
    go_wp2_with fail
    have hs5 := Sep.archN hAl hs3 (i + 1) hi2 (n + 1)
    simp only [List.set_cons_succ, List.set_set] at hs5
    have hs5d := hs5.drew
    have hi3 : (cellsT w.heap.size #[.int .u64 N, .int .i64 day, .bool comp, .slice ai ids.length ci, .int .i64 rn, .slice ae es.length ce, .slice af fl.length cf, .slice ap pot.length cp] 39 :: L.set i (arcT b A (n + 1) no))[i + 1]? = some (arcT b A (n + 1) no) := by simp [hil]
    have hA3 := (Sep.arch hs5d hi3).1
    clear an ano qf hCW hs4
    obtain ⟨an, ano⟩ := arch_n hAl hA3
    have qf := fun j => frozen_of hA3 j
    have hCW := cell_of (hs5d.cells 0 rfl) 0
    simp only [List.getElem?_toArray, List.getElem?_cons_zero, List.getElem?_cons_succ] at hCW
    clear hA3 hs5d
    go_wp2_with fail
    refine Mix.post_mk (C := (fun W : World => W.cell? ⟨w.heap.size, 0, none⟩ = some (.int .u64 N))) (by first | exact hCW | exact HCW.out _) (hK _ _ ?_)
    clear hK K
    iterate 2 (refine Mix.step0 fun K hK => ?_; go_simp; (try (go_bits; try go_simp)); first | ((with_reducible refine hK _ _ ?_); clear hK K) | ((try (simp only [IntWalk.iteOmega]; try go_simp)); (try go_bits); (with_reducible refine hK _ _ ?_); clear hK K))
    refine Mix.step2n (by first | rfl | simp [Region.wanted, yielded]) fun K hK => ?_
    go_wp2_with fail
    have hs6 := (Sep.archNo hAl hs5 (i + 1) hi3 (N : Int)).drew
    simp only [List.set_cons_succ, List.set_set] at hs6
    clear an ano qf hCW hs5
    have hCW := cell_of (hs6.cells 0 rfl) 0
    simp only [List.getElem?_toArray, List.getElem?_cons_zero, List.getElem?_cons_succ] at hCW
    refine Mix.post_mk (C := (fun W : World => W.cell? ⟨w.heap.size, 0, none⟩ = some (.int .u64 N))) (by first | exact hCW | exact HCW.out _) (hK _ _ ?_)
    clear hK K
    refine Mix.done ?_
    have hs7 := hs6.tail
    rw [HA.out] at hs7
    go_wp2_with fail
    refine bodyPost_end (results_none rfl _ _ _) rfl ?_
    exact ⟨⟨_, rfl⟩, ⟨(N : Int), day, comp, a1, c1, ids, rn, a2, c2, es, a3, c3, fl, a4, c4, pot⟩, rfl, by rw [← HE.out]; exact hs7⟩
  · have HE := Lib.hid (show (4) = cap4 n by unfold cap4; rw [if_neg hm])
    go_wp2_with fail
    refine Mix.region [0, 1, 0, 0, 0, 0, 0, 0, 1, 1, 0, 0, 2, 0, 0, 2] (fun W : World => W.cell? ⟨w.heap.size, 0, none⟩ = some (.int .u64 N)) (by kernel_rfl) (by kernel_rfl) hCW ?_
    simp only [List.zip_cons_cons, List.zip_nil_right]
    iterate 1 (refine Mix.step0 fun K hK => ?_; go_simp; (try (go_bits; try go_simp)); first | ((with_reducible refine hK _ _ ?_); clear hK K) | ((try (simp only [IntWalk.iteOmega]; try go_simp)); (try go_bits); (with_reducible refine hK _ _ ?_); clear hK K))
    (refine Mix.step1 fun K hK => ?_; go_simp; (try (go_bits; try go_simp)); first | ((with_reducible refine hK _ _ ?_); clear hK K) | ((try (simp only [IntWalk.iteOmega]; try go_simp)); (try go_bits); (with_reducible refine hK _ _ ?_); clear hK K))
    iterate 6 (refine Mix.step0 fun K hK => ?_; go_simp; (try (go_bits; try go_simp)); first | ((with_reducible refine hK _ _ ?_); clear hK K) | ((try (simp only [IntWalk.iteOmega]; try go_simp)); (try go_bits); (with_reducible refine hK _ _ ?_); clear hK K))
    (refine Mix.step1 fun K hK => ?_; go_simp; (try (go_bits; try go_simp)); first | ((with_reducible refine hK _ _ ?_); clear hK K) | ((try (simp only [IntWalk.iteOmega]; try go_simp)); (try go_bits); (with_reducible refine hK _ _ ?_); clear hK K))
    (refine Mix.step1 fun K hK => ?_; go_simp; refine ⟨fun W => ?_, hK _ _ ?_⟩; (intro hW1; (try intro hW2); (try intro hW3); (try intro hW4); (try intro hW5); (try intro hW6); (try intro hW7); (try intro hW8); go_simp); clear hK K)
    iterate 2 (refine Mix.step0 fun K hK => ?_; go_simp; (try (go_bits; try go_simp)); first | ((with_reducible refine hK _ _ ?_); clear hK K) | ((try (simp only [IntWalk.iteOmega]; try go_simp)); (try go_bits); (with_reducible refine hK _ _ ?_); clear hK K))
    refine Mix.step2n (by first | rfl | simp [Region.wanted, yielded]) fun K hK => ?_
    go_wp2_with fail
    have hs5 := Sep.archN hAl hs3 (i + 1) hi2 (4)
    simp only [List.set_cons_succ, List.set_set] at hs5
    have hs5d := hs5.drew
    have hi3 : (cellsT w.heap.size #[.int .u64 N, .int .i64 day, .bool comp, .slice ai ids.length ci, .int .i64 rn, .slice ae es.length ce, .slice af fl.length cf, .slice ap pot.length cp] 39 :: L.set i (arcT b A (4) no))[i + 1]? = some (arcT b A (4) no) := by simp [hil]
    have hA3 := (Sep.arch hs5d hi3).1
    clear an ano qf hCW hs4
    obtain ⟨an, ano⟩ := arch_n hAl hA3
    have qf := fun j => frozen_of hA3 j
    have hCW := cell_of (hs5d.cells 0 rfl) 0
    simp only [List.getElem?_toArray, List.getElem?_cons_zero, List.getElem?_cons_succ] at hCW
    clear hA3 hs5d
    go_wp2_with fail
    refine Mix.post_mk (C := (fun W : World => W.cell? ⟨w.heap.size, 0, none⟩ = some (.int .u64 N))) (by first | exact hCW | exact HCW.out _) (hK _ _ ?_)
    clear hK K
    iterate 2 (refine Mix.step0 fun K hK => ?_; go_simp; (try (go_bits; try go_simp)); first | ((with_reducible refine hK _ _ ?_); clear hK K) | ((try (simp only [IntWalk.iteOmega]; try go_simp)); (try go_bits); (with_reducible refine hK _ _ ?_); clear hK K))
    refine Mix.step2n (by first | rfl | simp [Region.wanted, yielded]) fun K hK => ?_
    go_wp2_with fail
    have hs6 := (Sep.archNo hAl hs5 (i + 1) hi3 (N : Int)).drew
    simp only [List.set_cons_succ, List.set_set] at hs6
    clear an ano qf hCW hs5
    have hCW := cell_of (hs6.cells 0 rfl) 0
    simp only [List.getElem?_toArray, List.getElem?_cons_zero, List.getElem?_cons_succ] at hCW
    refine Mix.post_mk (C := (fun W : World => W.cell? ⟨w.heap.size, 0, none⟩ = some (.int .u64 N))) (by first | exact hCW | exact HCW.out _) (hK _ _ ?_)
    clear hK K
    refine Mix.done ?_
    have hs7 := hs6.tail
    rw [HA.out] at hs7
    go_wp2_with fail
    refine bodyPost_end (results_none rfl _ _ _) rfl ?_
    exact ⟨⟨_, rfl⟩, ⟨(N : Int), day, comp, a1, c1, ids, rn, a2, c2, es, a3, c3, fl, a4, c4, pot⟩, rfl, by rw [← HE.out]; exact hs7⟩
end Go.Proofs.Ytfnkmkfkomhhnaa
