/-
  Arguments that are slices of records of integers, read as cells.
-/
import Derived.Test.YtfafecgnjjkagaaMem
import Derived.ProofKit
import Derived.Deep.Slices
import Derived.Deep.Fields
namespace Go.Mem
open Go Go.RowKit Go.ChangeShapes Go.WideShapes Go.Deep

/-- A list of integers of these kinds, each fitting its kind, as cells. -/
def Leaves (ks : List IntKind) (f : Nat → Int) (cs : List Value) : Prop :=
  cs.length = ks.length ∧ ∀ j k, ks[j]? = some k → cs[j]? = some (.int k (f j)) ∧ (Lit.int k (f j)).wf = true

/-- A slice of records: nil or empty, or each element's cells lie one behind the other. -/
def IsRec (ks : List IntKind) (w : World) (a : Option Addr) (len cap : Nat) (z : Nat → Nat → Int) : Prop :=
  (a = none ∧ len = 0 ∧ cap = 0) ∨
  ∃ x, a = some x ∧ len ≤ cap ∧ cap ≤ maxLen ∧ ∀ i, i < len → ∀ j k, ks[j]? = some k → w.cell? (x.add (i * ks.length + j)) = some (.int k (z i j)) ∧ (Lit.int k (z i j)).wf = true

theorem IsRec.get {ks : List IntKind} {w : World} {a : Option Addr} {len cap : Nat} {z : Nat → Nat → Int} (h : IsRec ks w a len cap z) (hk : 0 < ks.length) (i : Nat) (hi : i < len) :
    ∃ b off, a = some ⟨b, off, none⟩ ∧ b < w.heap.size ∧ ∀ i, i < len → ∀ j k, ks[j]? = some k → w.cell? ⟨b, off + (i * ks.length + j), none⟩ = some (.int k (z i j)) := by
  rcases h with ⟨_, rfl, _⟩ | ⟨x, rfl, hl, hm, hc⟩
  · omega
  · have h0 := (hc 0 (by omega) 0 ks[0] (by simp [hk])).1
    obtain ⟨b, off, spot⟩ := x
    have hspot : spot = none := by simpa [Addr.add] using World.cell?_spot h0
    subst hspot
    rw [Go.WideShapes.add_plain] at h0
    exact ⟨b, off, rfl, World.block_lt_of_cell? w _ h0, fun i hi j k hj => by rw [← Go.WideShapes.add_plain]; exact (hc i hi j k hj).1⟩
theorem IsRec.wf {ks : List IntKind} {w : World} {a : Option Addr} {len cap : Nat} {z : Nat → Nat → Int} (h : IsRec ks w a len cap z) (i : Nat) (hi : i < len) (j : Nat) (k : IntKind) (hj : ks[j]? = some k) : (Lit.int k (z i j)).wf = true := by
  rcases h with ⟨_, rfl, _⟩ | ⟨x, rfl, hl, hm, hc⟩
  · omega
  · exact (hc i hi j k hj).2

section
variable {H : Type} {enc : TypeId × Value → H} {P : Program} {w : World} {base : Nat} {spare : Nat → Bool} {held : Bool}
/-- A struct of integer fields, one cell each. -/
theorem leaves_struct {e : TypeId} {fs : Array Field} {ks : List IntKind} (he : P.underlying e = some (.struct fs)) (hone : oneCellFields P fs = true) (hC : P.cellsOf e = fs.size)
    (hk : fs.toList.map (fun f => P.underlying f.type) = ks.map fun k => some (TypeDesc.int k)) {n : Nat} {cs : List Value} {y : DataW H × List MemPlace} (h : DataW.trod enc P w base spare held n e cs = some y) :
    ∃ f : Nat → Int, Leaves ks f cs := by
  obtain ⟨xs, n', _, _, hlen, _, hf⟩ := DataW.trod_struct he h
  have hsz : fs.size = ks.length := by have := congrArg List.length hk; simpa using this
  have key : ∀ (j : Nat) (k : IntKind), ks[j]? = some k → ∃ q : Int, cs[j]? = some (Value.int k q) ∧ (Lit.int k q).wf = true := by
    intro j k hj
    have hjl : j < ks.length := (List.getElem?_eq_some_iff.1 hj).1
    have hjf : fs[j]? = some fs[j] := by simp [hsz, hjl]
    obtain ⟨ho, hc1⟩ := hone_of hone j _ hjf
    have ht : P.underlying fs[j].type = some (.int k) := by
      have := congrArg (fun l => l[j]?) hk
      simp [hsz, hjl] at this
      rw [List.getElem?_eq_getElem hjl] at hj
      rw [this]; exact congrArg _ (congrArg _ (Option.some.inj hj))
    have h1 := hf j _ hjf
    rw [ho, hc1] at h1
    have hcl : j < cs.length := by omega
    have hone' : (cs.drop j).take 1 = [cs[j]] := by rw [List.drop_eq_getElem_cons hcl]; rfl
    rw [hone'] at h1
    have hxl : j < xs.length := by omega
    rw [List.getElem?_eq_getElem hxl] at h1
    obtain ⟨q, hq, _, hw⟩ := DataW.trod_int ht h1
    refine ⟨q, ?_, hw⟩
    rw [List.getElem?_eq_getElem hcl]
    simpa using hq
  refine ⟨fun j => match ks[j]? with | some k => (match cs[j]? with | some (.int _ q) => q | _ => 0) | none => 0, by omega, fun j k hj => ?_⟩
  obtain ⟨q, h1, h2⟩ := key j k hj
  simp only [hj, h1]
  exact ⟨trivial, h2⟩

/-- An array of integers. -/
theorem leaves_array {e t : TypeId} {m : Nat} {k : IntKind} (he : P.underlying e = some (.array m t)) (hk : P.underlying t = some (.int k)) (h1 : P.cellsOf t = 1) (hC : P.cellsOf e = m)
    {n : Nat} {cs : List Value} {y : DataW H × List MemPlace} (h : DataW.trod enc P w base spare held n e cs = some y) : ∃ f : Nat → Int, Leaves (List.replicate m k) f cs := by
  obtain ⟨xs, n', _, _, hlen, hxl, hf⟩ := DataW.trod_array he h
  have key : ∀ j, j < m → ∃ q : Int, cs[j]? = some (Value.int k q) ∧ (Lit.int k q).wf = true := by
    intro j hj
    have h2 := hf j hj
    rw [h1, Nat.mul_one] at h2
    have hcl : j < cs.length := by omega
    have hone' : (cs.drop j).take 1 = [cs[j]] := by rw [List.drop_eq_getElem_cons hcl]; rfl
    rw [hone'] at h2
    have hxl' : j < xs.length := by omega
    rw [List.getElem?_eq_getElem hxl'] at h2
    obtain ⟨q, hq, _, hw⟩ := DataW.trod_int hk h2
    refine ⟨q, ?_, hw⟩
    rw [List.getElem?_eq_getElem hcl]
    simpa using hq
  refine ⟨fun j => match cs[j]? with | some (.int _ q) => q | _ => 0, by rw [List.length_replicate]; omega, fun j k' hj => ?_⟩
  have hjm : j < m := by have := (List.getElem?_eq_some_iff.1 hj).1; simpa using this
  have hkk : k' = k := by rw [List.getElem?_replicate, if_pos hjm] at hj; exact (Option.some.inj hj).symm
  subst hkk
  obtain ⟨q, h2, h3⟩ := key j hjm
  simp only [h2]
  exact ⟨trivial, h3⟩

/-- A slice of such records. -/
theorem open_recs {t e : TypeId} {ks : List IntKind} {fuel : Nat} {a : Option Addr} {len cap : Nat} {x : DataW H × List MemPlace} (ht : P.underlying t = some (.slice e)) (hC : P.cellsOf e = ks.length)
    (hl : ∀ n cs y, DataW.trod enc P w base spare held n e cs = some y → ∃ f : Nat → Int, Leaves ks f cs) (h : DataW.trod enc P w base spare held fuel t [.slice a len cap] = some x) :
    ∃ z, IsRec ks w a len cap z := by
  rcases Go.Deep.open_slice ht h with ⟨hcs, _⟩ | ⟨a', len', cap', m, n, D, Pl, hcs, _, hle, hm, hmm, _, hi⟩
  · simp at hcs
    obtain ⟨rfl, rfl, rfl⟩ := hcs
    exact ⟨fun _ _ => 0, .inl ⟨rfl, rfl, rfl⟩⟩
  · simp at hcs
    obtain ⟨rfl, rfl, rfl⟩ := hcs
    have hlm : len ≤ m := by rw [hmm]; split <;> omega
    have key : ∀ i, ∃ f : Nat → Int, i < len → ∀ j k, ks[j]? = some k → w.cell? (a'.add (i * ks.length + j)) = some (.int k (f j)) ∧ (Lit.int k (f j)).wf = true := by
      intro i
      by_cases hil : i < len
      · obtain ⟨cs', hc, htr⟩ := hi i (by omega)
        rw [hC] at hc
        obtain ⟨f, hfl, hf⟩ := hl _ _ _ htr
        obtain ⟨_, hcl, hat⟩ := World.cells?_some hc
        refine ⟨f, fun _ j k hj => ?_⟩
        obtain ⟨h1, h2⟩ := hf j k hj
        have hjl : j < ks.length := (List.getElem?_eq_some_iff.1 hj).1
        refine ⟨?_, h2⟩
        rw [← Go.Deep.add_add, hat j hjl, h1]
      · exact ⟨fun _ => 0, fun h => absurd h hil⟩
    refine ⟨fun i => Classical.choose (key i), .inr ⟨a', rfl, hle, hm, fun i hil => Classical.choose_spec (key i) hil⟩⟩
end
end Go.Mem
