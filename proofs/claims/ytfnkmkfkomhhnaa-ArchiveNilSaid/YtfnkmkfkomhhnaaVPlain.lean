/-
  Rounds and what an archive keeps, in plain words; things in memory that hold them.
-/
import Derived.Test.YtfnkmkfkomhhnaaCPlain
import Derived.Test.YtfnkmkfkomhhnaaObj
import Derived.Test.YtfnkmkfkomhhnaaObj2
namespace Go.ArchP
open Go Go.RowKit Go.Mem Go.NetP Go.CertP

/-- A round as it lies in cells. -/
structure Ro where
  no : Int
  day : Int
  comp : Bool
  ai : Option Addr
  ci : Nat
  ids : List Int
  n : Int
  ae : Option Addr
  ce : Nat
  es : List Ed
  af : Option Addr
  cf : Nat
  fl : List Int
  ap : Option Addr
  cp : Nat
  pot : List Int
instance : Inhabited Ro := ⟨⟨0, 0, false, none, 0, [], 0, none, 0, [], none, 0, [], none, 0, []⟩⟩
def roR : Rec Ro where
  m := 8
  cells r := [.int .u64 r.no, .int .i64 r.day, .bool r.comp, .slice r.ai r.ids.length r.ci, .int .i64 r.n, .slice r.ae r.es.length r.ce, .slice r.af r.fl.length r.cf, .slice r.ap r.pot.length r.cp]
  len _ := rfl
  one r u hu := by
    simp only [List.mem_cons, List.not_mem_nil, or_false] at hu
    rcases hu with rfl | rfl | rfl | rfl | rfl | rfl | rfl | rfl <;> rfl
  pos := by decide
/-- A round as a value. -/
def Ro.val (r : Ro) : Value := .agg #[.int .u64 r.no, .int .i64 r.day, .bool r.comp, .slice r.ai r.ids.length r.ci, .int .i64 r.n, .slice r.ae r.es.length r.ce, .slice r.af r.fl.length r.cf, .slice r.ap r.pot.length r.cp]
/-- What a round says, wherever it lies. -/
structure Co where
  no : Int
  day : Int
  comp : Bool
  ids : List Int
  n : Int
  es : List Ed
  fl : List Int
  pot : List Int
deriving DecidableEq
def Ro.co (r : Ro) : Co := ⟨r.no, r.day, r.comp, r.ids, r.n, r.es, r.fl, r.pot⟩
def mayC (r : Co) : Bool := checkB r.n r.es r.fl r.pot && decide (r.ids.length ≤ 64) && decide (0 ≤ r.day)
def sameB (a b : Ro) : Bool := decide (a.co = b.co)
def Ro.small (r : Ro) : Prop := r.ids.length ≤ 1000000 ∧ r.es.length ≤ 1000000 ∧ r.fl.length ≤ 1000000 ∧ r.pot.length ≤ 1000000
theorem may_small {r : Ro} (h : mayC r.co = true) : r.small := by
  unfold mayC at h
  have h1 := (Bool.and_eq_true _ _).mp h
  have h2 := (Bool.and_eq_true _ _).mp h1.1
  have h3 : r.ids.length ≤ 64 := of_decide_eq_true h2.2
  have h4 := h2.1
  unfold checkB at h4
  have h5 := (Bool.and_eq_true _ _).mp ((Bool.and_eq_true _ _).mp h4).1
  have h6 := (Bool.and_eq_true _ _).mp h5.1
  have h7 : (r.pot.length : Int) = r.n := of_decide_eq_true ((Bool.and_eq_true _ _).mp h5.2).2
  have h8 := flows_within h6.2
  unfold withinB at h8
  have h9 : r.fl.length = r.es.length := of_decide_eq_true ((Bool.and_eq_true _ _).mp ((Bool.and_eq_true _ _).mp h8).1).1
  have h10 := h6.1
  unfold rightB at h10
  have h11 := (Bool.and_eq_true _ _).mp ((Bool.and_eq_true _ _).mp ((Bool.and_eq_true _ _).mp h10).1).1
  have h12 : r.es.length ≤ 200 := of_decide_eq_true h11.2
  have h13 : r.n ≤ 40 := of_decide_eq_true ((Bool.and_eq_true _ _).mp h11.1).2
  refine ⟨by omega, by omega, by omega, by omega⟩
/-- The slices of a round read. -/
def Ro.Ok (w : World) (r : Ro) : Prop := Rd .u64 w (.slice r.ai r.ids.length r.ci) r.ids ∧ RdG edR w (.slice r.ae r.es.length r.ce) r.es ∧ Rd .i64 w (.slice r.af r.fl.length r.cf) r.fl ∧ Rd .i64 w (.slice r.ap r.pot.length r.cp) r.pot
theorem Ro.Ok.below {w w' : World} {r : Ro} (h : r.Ok w) (hb : Below w.heap.size w w') : r.Ok w' := ⟨h.1.below hb, h.2.1.below hb, h.2.2.1.below hb, h.2.2.2.below hb⟩
theorem Ro.Ok.sep {w0 w : World} {L : List Thing} {r : Ro} (h : r.Ok w0) (hs : Sep w0 w L) : r.Ok w := h.below hs.below
def Ro.blk (r : Ro) (k : Nat) : Prop := Blk (.slice r.ai r.ids.length r.ci) k ∨ Blk (.slice r.ae r.es.length r.ce) k ∨ Blk (.slice r.af r.fl.length r.cf) k ∨ Blk (.slice r.ap r.pot.length r.cp) k
/-- The slices of a round are rows of its own. -/
def Ro.Own (Tu Te Ti : TypeId) (w : World) (r : Ro) : Prop :=
  IOwn .u64 Tu w (.slice r.ai r.ids.length r.ci) r.ids ∧ ROwn edR Te w (.slice r.ae r.es.length r.ce) r.es ∧ IOwn .i64 Ti w (.slice r.af r.fl.length r.cf) r.fl ∧ IOwn .i64 Ti w (.slice r.ap r.pot.length r.cp) r.pot
section
variable {Tu Te Ti T : TypeId} {w w' w0 : World} {r : Ro} {L : List Thing}
theorem Ro.Own.ok (h : r.Own Tu Te Ti w) : r.Ok w := ⟨h.1.rd, h.2.1.rd, h.2.2.1.rd, h.2.2.2.rd⟩
theorem Ro.Own.low (h : r.Own Tu Te Ti w) {k : Nat} (hk : r.blk k) : k < w.heap.size := by
  rcases hk with q | q | q | q
  · exact h.1.low k q
  · exact (World.ownsRow.lt h.2.1 k q).2
  · exact h.2.2.1.low k q
  · exact h.2.2.2.low k q
theorem Ro.Own.frame {S : Nat → Prop} (h : r.Own Tu Te Ti w) (hf : Fr S w w') (hd : ∀ k, r.blk k → ¬ S k) : r.Own Tu Te Ti w' :=
  ⟨h.1.frame hf fun k q => hd k (.inl q), owns_frame h.2.1 hf fun k q => hd k (.inr (.inl q)), h.2.2.1.frame hf fun k q => hd k (.inr (.inr (.inl q))), h.2.2.2.frame hf fun k q => hd k (.inr (.inr (.inr q)))⟩
/-- A round with lists of its own. -/
def roT (Tu Te Ti : TypeId) (r : Ro) : Thing where
  is w S := (∀ k, S k ↔ r.blk k) ∧ r.Own Tu Te Ti w
  low := by rintro w S ⟨hS, h⟩ k hk; exact h.low ((hS k).1 hk)
  stay := by rintro w w' S U ⟨hS, h⟩ hf hd; exact ⟨hS, h.frame hf fun k q => hd k ((hS k).2 q)⟩
theorem Sep.ro {i : Nat} (h : Sep w0 w L) (hi : L[i]? = some (roT Tu Te Ti r)) : r.Ok w := by
  obtain ⟨_, _, h⟩ := h.at i hi
  exact h.ok
theorem Sep.roNew (h : Sep w0 w (intsT .i64 Ti (.slice r.ap r.pot.length r.cp) r.pot :: intsT .i64 Ti (.slice r.af r.fl.length r.cf) r.fl :: recT edR Te (.slice r.ae r.es.length r.ce) r.es :: intsT .u64 Tu (.slice r.ai r.ids.length r.ci) r.ids :: L)) :
    Sep w0 w (roT Tu Te Ti r :: L) := by
  obtain ⟨Ss, hl, ha, p⟩ := h
  match Ss, hl with
  | S0 :: S1 :: S2 :: S3 :: Ss, hl =>
    obtain ⟨e0, h0⟩ := ha 0 _ _ rfl rfl
    obtain ⟨e1, h1⟩ := ha 1 _ _ rfl rfl
    obtain ⟨e2, h2⟩ := ha 2 _ _ rfl rfl
    obtain ⟨e3, h3⟩ := ha 3 _ _ rfl rfl
    have q := ((p.fuse).fuse).fuse
    refine ⟨_ :: Ss, by simpa using hl, fun j C S hC hS => ?_, q⟩
    match j, hC, hS with
    | 0, hC, hS =>
      simp only [List.getElem?_cons_zero, Option.some.injEq] at hC hS
      subst hC; subst hS
      refine ⟨fun k => ?_, h3, h2, h1, h0⟩
      have q0 : S0 k ↔ Blk (.slice r.ap r.pot.length r.cp) k := by rw [e0]
      have q1 : S1 k ↔ Blk (.slice r.af r.fl.length r.cf) k := by rw [e1]
      have q2 : S2 k ↔ Blk (.slice r.ae r.es.length r.ce) k := by rw [e2]
      have q3 : S3 k ↔ Blk (.slice r.ai r.ids.length r.ci) k := by rw [e3]
      show (((S0 k ∨ S1 k) ∨ S2 k) ∨ S3 k) ↔ _ ∨ _ ∨ _ ∨ _
      rw [q0, q1, q2, q3, or_comm (a := _ ∨ _), or_comm (a := Blk _ k ∨ Blk _ k), or_comm (a := Blk (.slice r.ap _ _) k)]
    | j + 1, hC, hS => exact ha (j + 4) C S (by simpa using hC) (by simpa using hS)
/-- An archive in block b: four rounds with lists of their own, how many are kept, the last one's number. -/
def archT (Tu Te Ti T : TypeId) (b : Nat) (ks : List Ro) (n no : Int) : Thing where
  is w S := (∀ k, S k ↔ (k = b ∨ ∃ r ∈ ks, r.blk k)) ∧ w.heap[b]? = some (.cells (roR.flat ks ++ [Value.int .u64 n, Value.int .u64 no]).toArray T (0, 0)) ∧ ∀ r ∈ ks, ¬ r.blk b ∧ r.Own Tu Te Ti w
  low := by
    rintro w S ⟨hS, hb, h⟩ k hk
    rcases (hS k).1 hk with rfl | ⟨r, hr, q⟩
    · exact lt_of hb
    · exact (h r hr).2.low q
  stay := by
    rintro w w' S U ⟨hS, hb, h⟩ hf hd
    exact ⟨hS, (hf.block b (lt_of hb) (hd b ((hS b).2 (.inl rfl)))).trans hb, fun r hr => ⟨(h r hr).1, (h r hr).2.frame hf fun k q => hd k ((hS k).2 (.inr ⟨r, hr, q⟩))⟩⟩
theorem Sep.arch {i b : Nat} {ks : List Ro} {n no : Int} (h : Sep w0 w L) (hi : L[i]? = some (archT Tu Te Ti T b ks n no)) :
    w.heap[b]? = some (.cells (roR.flat ks ++ [Value.int .u64 n, Value.int .u64 no]).toArray T (0, 0)) ∧ ∀ r ∈ ks, r.Ok w := by
  obtain ⟨_, _, hb, h⟩ := h.at i hi
  exact ⟨hb, fun r hr => (h r hr).2.ok⟩
/-- A cell of a kept round. -/
theorem arch_cell {b : Nat} {ks : List Ro} {n no : Int} (hb : w.heap[b]? = some (.cells (roR.flat ks ++ [Value.int .u64 n, Value.int .u64 no]).toArray T (0, 0))) (i : Nat) (hi : i < ks.length) (j : Nat) (hj : j < 8) : w.cell? ⟨b, i * 8 + j, none⟩ = (roR.cells ks[i])[j]? := by
  have hl := roR.flat_length ks
  have h8 : roR.m = 8 := rfl
  rw [h8] at hl
  rw [cell_of hb, List.getElem?_toArray, List.getElem?_append_left (by omega)]
  exact roR.flat_get ks i hi j hj
theorem arch_n {b : Nat} {ks : List Ro} {n no : Int} (h4 : ks.length = 4) (hb : w.heap[b]? = some (.cells (roR.flat ks ++ [Value.int .u64 n, Value.int .u64 no]).toArray T (0, 0))) : w.cell? ⟨b, 32, none⟩ = some (.int .u64 n) ∧ w.cell? ⟨b, 33, none⟩ = some (.int .u64 no) := by
  have hl : (roR.flat ks).length = 32 := by rw [roR.flat_length, h4]; rfl
  refine ⟨?_, ?_⟩ <;> rw [cell_of hb, List.getElem?_toArray, List.getElem?_append_right (by omega), hl] <;> rfl
end
end Go.ArchP
