/-
  A device: what it says. Plain.
-/
import Derived.Test.YtpjbafpbgacnkaaLA
set_option linter.unusedVariables false
set_option linter.unusedSimpArgs false
namespace Go.DevP
open Go Go.Mem
/-- A block: what is sure, what is loose. -/
structure Blk where
  sure : List Int
  loose : List (List Int)
instance : Inhabited Blk := ⟨⟨[], []⟩⟩
structure Dv where
  B : List Blk
  left : Int
  off : Bool
def zeros : List Int := List.replicate 512 0
theorem zeros_len : zeros.length = 512 := by unfold zeros; rw [List.length_replicate]
def Blk.stands (b : Blk) : List Int := b.loose.getLastD b.sure
def Dv.new (n : Nat) : Dv := ⟨List.replicate n ⟨zeros, []⟩, -1, false⟩
def onE (off : Bool) : Int := if off = true then 8 else 0
def hasB (n : Nat) (k : Int) : Bool := decide (0 ≤ k) && decide (k < n)
def cntE (left : Int) : Int := if left = 0 then 8 else 0
def cntL (left : Int) : Int := if left = -1 then left else if left = 0 then left else left - 1
def cntO (left : Int) (off : Bool) : Bool := if left = 0 then true else off
def Dv.counted (d : Dv) : Dv := { d with left := cntL d.left, off := cntO d.left d.off }
def Dv.readE (d : Dv) (k : Int) : Int := if d.off = true then 8 else if hasB d.B.length k = true then 0 else 1
def Dv.readB (d : Dv) (k : Int) : List Int := if d.off = true then [] else if hasB d.B.length k = true then (d.B.getD k.toNat default).stands else []
/-- What is asked of a write before it counts. -/
def Dv.mayW (d : Dv) (k : Int) (n : Nat) : Bool := hasB d.B.length k && decide (n = 512)
def Dv.writeE (d : Dv) (k : Int) (n : Nat) : Int := if d.off = true then 8 else if d.mayW k n = true then cntE d.left else 1
def Blk.add (b : Blk) (x : List Int) : Blk := { b with loose := b.loose ++ [x] }
def Dv.put (d : Dv) (k : Nat) (x : List Int) : Dv := { d with B := d.B.set k ((d.B.getD k default).add x) }
def Dv.writeD (d : Dv) (k : Int) (x : List Int) : Dv := if d.off = true then d else if d.mayW k x.length = true then (if d.left = 0 then d.counted else d.counted.put k.toNat x) else d
def Dv.flushE (d : Dv) : Int := if d.off = true then 8 else cntE d.left
def Blk.flush (b : Blk) : Blk := ⟨b.stands, []⟩
def Dv.flushD (d : Dv) : Dv := if d.off = true then d else if d.left = 0 then d.counted else { d.counted with B := d.B.map Blk.flush }
def Dv.armD (d : Dv) (n : Int) : Dv := if d.off = true then d else { d with left := max n (-1) }
def Dv.offD (d : Dv) : Dv := { d with off := true }
/-- How many blocks ahead of k have loose things. -/
def rankB (B : List Blk) (k : Nat) : Nat := ((B.take k).filter fun b => !b.loose.isEmpty).length
def pickV (ps : List Int) (r w : Nat) : Nat := (max (ps.getD r 0) 0).toNat % (w + 1)
def Blk.comes (b : Blk) (p : Nat) : Blk := ⟨if p = 0 then b.sure else b.loose.getD (p - 1) [], []⟩
def comesB (B : List Blk) (ps : List Int) : List Blk := (List.range B.length).map fun k => (B.getD k default).comes (pickV ps (rankB B k) (B.getD k default).loose.length)
def Dv.comesE (d : Dv) : Int := if d.off = true then 0 else 3
def Dv.comesD (d : Dv) (ps : List Int) : Dv := if d.off = true then ⟨comesB d.B ps, -1, false⟩ else d
/-- A device that may be. -/
structure Dv.Good (d : Dv) : Prop where
  n0 : 1 ≤ d.B.length
  n1 : d.B.length ≤ 4096
  left : -1 ≤ d.left ∧ d.left ≤ 9223372036854775807
  sure : ∀ b ∈ d.B, b.sure.length = 512
  loose : ∀ b ∈ d.B, ∀ x ∈ b.loose, x.length = 512
theorem Blk.stands_len {b : Blk} (h1 : b.sure.length = 512) (h2 : ∀ x ∈ b.loose, x.length = 512) : b.stands.length = 512 := by
  unfold Blk.stands
  cases h : b.loose.getLast? with
  | none => rw [List.getLastD_eq_getLast?, h]; exact h1
  | some x => rw [List.getLastD_eq_getLast?, h]; exact h2 x (List.mem_of_getLast? h)
end Go.DevP
