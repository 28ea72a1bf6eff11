/-
  A device, as it lies in memory.
-/
import Derived.Test.YtpjbafpbgacnkaaDvPlain
import Derived.Test.YtpjbafpbgacnkaaDMap2
import Derived.Test.YtpjbafpbgacnkaaPack
import Derived.Test.YtpjbafpbgacnkaaSl
import Derived.Test.YtpjbafpbgacnkaaLD
import Derived.Test.YtpjbafpbgacnkaaObj
set_option linter.unusedVariables false
set_option linter.unusedSimpArgs false
namespace Go.DevP
open Go Go.Mem
/-- What is loose of one block: its row, and what stands in it. -/
structure Ent where
  k : Nat
  s : Sl
  c : List (Sl × List Int)
def Ent.key (e : Ent) : Int := e.k
def Ent.val (e : Ent) : Value := e.s.val
structure Lay where
  bm : Nat
  ss : Sl
  S : List (Sl × List Int)
  es : List Ent
  M : List (Sl × List Int)
def rowsL (es : List Ent) (E2 : TypeId) : List Thing := es.map fun e => recT slR E2 e.s.val (e.c.map (·.1))
/-- What bytes a slice says: none, or some of the pool. -/
def InP (M : List (Sl × List Int)) (p : Sl × List Int) : Prop := p = (⟨none, 0, 0⟩, zeros) ∨ p ∈ M
structure Ok (l : Lay) (d : Dv) : Prop where
  len : l.S.length = d.B.length
  sure : ∀ k (h : k < l.S.length), (l.S[k]).2 = (d.B.getD k default).sure ∧ InP l.M l.S[k]
  es : ∀ e ∈ l.es, e.k < d.B.length ∧ (d.B.getD e.k default).loose = e.c.map (·.2) ∧ e.c ≠ [] ∧ ∀ p ∈ e.c, p ∈ l.M
  nd : (l.es.map (·.k)).Nodup
  no : ∀ k, k < d.B.length → (∀ e ∈ l.es, e.k ≠ k) → (d.B.getD k default).loose = []
  m512 : ∀ p ∈ l.M, p.2.length = 512 ∧ p.1.n = 512
end Go.DevP
namespace Go.Proofs.Ytpjbafpbgacnkaa
open Go Go.RowKit Go.Mem Go.DevP
/-- The block of a device. -/
abbrev dvC (b : Nat) (ss : Value) (bm : Nat) (left : Int) (off : Bool) : Thing := cellsT b #[ss, .map (some bm), .int .i64 left, .bool off] 58
def devL (b : Nat) (l : Lay) (left : Int) (off : Bool) : List Thing :=
  dvC b l.ss.val l.bm left off :: recT slR 41 l.ss.val (l.S.map (·.1)) :: dmapT .i64 Ent.key Ent.val l.bm l.es :: (rowsL l.es 41 ++ gridL .u8 5 l.M)
def devT (b : Nat) (d : Dv) : Thing := exT (fun l => Ok l d) fun l => packT (devL b l d.left d.off)
theorem Sep.devOpen {w0 w : World} {L : List Thing} {b i : Nat} {d : Dv} (h : Sep w0 w L) (hi : L[i]? = some (devT b d)) : ∃ l, Ok l d ∧ Sep w0 w (devL b l d.left d.off ++ L.eraseIdx i) := by
  obtain ⟨l, hl, hs⟩ := (h.front hi).exOut
  exact ⟨l, hl, hs.unpack⟩
theorem Sep.devClose {w0 w : World} {L : List Thing} {b i : Nat} {d : Dv} {A : Thing} (hi : L[i]? = some A) {l : Lay} (h : Sep w0 w (devL b l d.left d.off ++ L.eraseIdx i)) (hl : Ok l d) : Sep w0 w (L.set i (devT b d)) :=
  (h.pack.exIn (P := fun l => Ok l d) (T := fun l => packT (devL b l d.left d.off)) hl).back hi
end Go.Proofs.Ytpjbafpbgacnkaa
